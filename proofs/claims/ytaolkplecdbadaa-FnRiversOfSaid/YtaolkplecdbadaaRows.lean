/-
  No cell of these rows narrows 'for every input' (looked for: loops, veiled, ifaces, maps, wideKeys, modest, calm, conditions, laid).
  DERIVED. THE GIVEN ROWS OF THIS SEAT. 10 by the template 'for every input the law returns true; each argument reads behind the call as it read before'; 0 by the template 'total and deterministic' (their statements: YtaolkplecdbadaaTotals.lean).
  GIVEN WITH THE SEED: the statements are not yours to turn. If you find one false, say at which input.
  Laid BY PROGRAM, IN A SANDBOX (cutbox-rows.mjs): the forced cells as the released guide's own fill.sh prints them over the translation 43f8a4c44265e068… (all of the seat's roots in one cut). By AI agents, Wed Nov 11 2026. No macro, syntax, notation, axiom, sorry.
-/
import Derived.Test.YtaolkplecdbadaaChecked
import GoSem.Claim
import GoSem.ClaimJoined
import GoSem.ClaimMapViews
import Derived.JoinedTies
import Derived.KernelRfl
namespace Go.Proofs.Ytaolkplecdbadaa
/- THE CELL 'sum', in the pinned program and in every row, IS THE sha256 OF THE DUMP (.gsa) THAT YtaolkplecdbadaaProg.lean LOADS. Nothing in Lean hashes anything: it is a label: what it is worth is what the hold of that sum in a sandbox is worth. -/
noncomputable def Try.pinned : Pinned := { name := "ytaolkplecdbadaa", sum := "43f8a4c44265e068f60601021677b659e64e8f1fae830ff25ce046919b304a97", checked := Try.checked }
namespace Rows
def none {H : Type} : Left H := { results := [], args := [] }

/-- 'laws.FnExactHyphenRow': WHATEVER THE INPUT: true; the input reads as it did. -/
def fnExactHyphenRowSpec : ChangeSpec := { name := "fnExactHyphenRow", fn := fun _ => fun
  | [d] => { results := [.lit (.bool true)], args := [d] }
  | _ => none }
def fnExactHyphenRowRow : OpenClaim := { program := "ytaolkplecdbadaa", sum := "43f8a4c44265e068f60601021677b659e64e8f1fae830ff25ce046919b304a97", func := "loop.example/pagebuilder/laws.FnExactHyphenRow", spec := "fnExactHyphenRow", apart := false }
def FnExactHyphenRowSaid : Prop := fnExactHyphenRowRow.holds Try.pinned (OpenSpec.ofChange fnExactHyphenRowSpec)

/-- ITS FALSE NEIGHBOUR: 'it returns false'. Refute it at one input. -/
def fnExactHyphenRowWrong : ChangeSpec := { name := "fnExactHyphenRow", fn := fun _ => fun
  | [d] => { results := [.lit (.bool false)], args := [d] }
  | _ => none }
def FnExactHyphenRowWrongFalsely : Prop := fnExactHyphenRowRow.holds Try.pinned (OpenSpec.ofChange fnExactHyphenRowWrong)

/-- 'laws.FnHyphenRow': WHATEVER THE INPUT: true; the input reads as it did. -/
def fnHyphenRowSpec : ChangeSpec := { name := "fnHyphenRow", fn := fun _ => fun
  | [d] => { results := [.lit (.bool true)], args := [d] }
  | _ => none }
def fnHyphenRowRow : OpenClaim := { program := "ytaolkplecdbadaa", sum := "43f8a4c44265e068f60601021677b659e64e8f1fae830ff25ce046919b304a97", func := "loop.example/pagebuilder/laws.FnHyphenRow", spec := "fnHyphenRow", apart := false }
def FnHyphenRowSaid : Prop := fnHyphenRowRow.holds Try.pinned (OpenSpec.ofChange fnHyphenRowSpec)

/-- ITS FALSE NEIGHBOUR: 'it returns false'. Refute it at one input. -/
def fnHyphenRowWrong : ChangeSpec := { name := "fnHyphenRow", fn := fun _ => fun
  | [d] => { results := [.lit (.bool false)], args := [d] }
  | _ => none }
def FnHyphenRowWrongFalsely : Prop := fnHyphenRowRow.holds Try.pinned (OpenSpec.ofChange fnHyphenRowWrong)

/-- 'laws.FnExactLonelyLines': WHATEVER THE INPUT: true; the input reads as it did. -/
def fnExactLonelyLinesSpec : ChangeSpec := { name := "fnExactLonelyLines", fn := fun _ => fun
  | [d1, d2, d3] => { results := [.lit (.bool true)], args := [d1, d2, d3] }
  | _ => none }
def fnExactLonelyLinesRow : OpenClaim := { program := "ytaolkplecdbadaa", sum := "43f8a4c44265e068f60601021677b659e64e8f1fae830ff25ce046919b304a97", func := "loop.example/pagebuilder/laws.FnExactLonelyLines", spec := "fnExactLonelyLines", apart := false }
def FnExactLonelyLinesSaid : Prop := fnExactLonelyLinesRow.holds Try.pinned (OpenSpec.ofChange fnExactLonelyLinesSpec)

/-- ITS FALSE NEIGHBOUR: 'it returns false'. Refute it at one input. -/
def fnExactLonelyLinesWrong : ChangeSpec := { name := "fnExactLonelyLines", fn := fun _ => fun
  | [d1, d2, d3] => { results := [.lit (.bool false)], args := [d1, d2, d3] }
  | _ => none }
def FnExactLonelyLinesWrongFalsely : Prop := fnExactLonelyLinesRow.holds Try.pinned (OpenSpec.ofChange fnExactLonelyLinesWrong)

/-- 'laws.FnLonelyLines': WHATEVER THE INPUT: true; the input reads as it did. -/
def fnLonelyLinesSpec : ChangeSpec := { name := "fnLonelyLines", fn := fun _ => fun
  | [d] => { results := [.lit (.bool true)], args := [d] }
  | _ => none }
def fnLonelyLinesRow : OpenClaim := { program := "ytaolkplecdbadaa", sum := "43f8a4c44265e068f60601021677b659e64e8f1fae830ff25ce046919b304a97", func := "loop.example/pagebuilder/laws.FnLonelyLines", spec := "fnLonelyLines", apart := false }
def FnLonelyLinesSaid : Prop := fnLonelyLinesRow.holds Try.pinned (OpenSpec.ofChange fnLonelyLinesSpec)

/-- ITS FALSE NEIGHBOUR: 'it returns false'. Refute it at one input. -/
def fnLonelyLinesWrong : ChangeSpec := { name := "fnLonelyLines", fn := fun _ => fun
  | [d] => { results := [.lit (.bool false)], args := [d] }
  | _ => none }
def FnLonelyLinesWrongFalsely : Prop := fnLonelyLinesRow.holds Try.pinned (OpenSpec.ofChange fnLonelyLinesWrong)

/-- 'laws.FnExactAvoidLonely': WHATEVER THE INPUT: true; the input reads as it did. -/
def fnExactAvoidLonelySpec : ChangeSpec := { name := "fnExactAvoidLonely", fn := fun _ => fun
  | [d1, d2, d3] => { results := [.lit (.bool true)], args := [d1, d2, d3] }
  | _ => none }
def fnExactAvoidLonelyRow : OpenClaim := { program := "ytaolkplecdbadaa", sum := "43f8a4c44265e068f60601021677b659e64e8f1fae830ff25ce046919b304a97", func := "loop.example/pagebuilder/laws.FnExactAvoidLonely", spec := "fnExactAvoidLonely", apart := false }
def FnExactAvoidLonelySaid : Prop := fnExactAvoidLonelyRow.holds Try.pinned (OpenSpec.ofChange fnExactAvoidLonelySpec)

/-- ITS FALSE NEIGHBOUR: 'it returns false'. Refute it at one input. -/
def fnExactAvoidLonelyWrong : ChangeSpec := { name := "fnExactAvoidLonely", fn := fun _ => fun
  | [d1, d2, d3] => { results := [.lit (.bool false)], args := [d1, d2, d3] }
  | _ => none }
def FnExactAvoidLonelyWrongFalsely : Prop := fnExactAvoidLonelyRow.holds Try.pinned (OpenSpec.ofChange fnExactAvoidLonelyWrong)

/-- 'laws.FnAvoidLonely': WHATEVER THE INPUT: true; the input reads as it did. -/
def fnAvoidLonelySpec : ChangeSpec := { name := "fnAvoidLonely", fn := fun _ => fun
  | [d] => { results := [.lit (.bool true)], args := [d] }
  | _ => none }
def fnAvoidLonelyRow : OpenClaim := { program := "ytaolkplecdbadaa", sum := "43f8a4c44265e068f60601021677b659e64e8f1fae830ff25ce046919b304a97", func := "loop.example/pagebuilder/laws.FnAvoidLonely", spec := "fnAvoidLonely", apart := false }
def FnAvoidLonelySaid : Prop := fnAvoidLonelyRow.holds Try.pinned (OpenSpec.ofChange fnAvoidLonelySpec)

/-- ITS FALSE NEIGHBOUR: 'it returns false'. Refute it at one input. -/
def fnAvoidLonelyWrong : ChangeSpec := { name := "fnAvoidLonely", fn := fun _ => fun
  | [d] => { results := [.lit (.bool false)], args := [d] }
  | _ => none }
def FnAvoidLonelyWrongFalsely : Prop := fnAvoidLonelyRow.holds Try.pinned (OpenSpec.ofChange fnAvoidLonelyWrong)

/-- 'laws.FnRiversOf': WHATEVER THE INPUT: true; the input reads as it did. -/
def fnRiversOfSpec : ChangeSpec := { name := "fnRiversOf", fn := fun _ => fun
  | [d] => { results := [.lit (.bool true)], args := [d] }
  | _ => none }
def fnRiversOfRow : OpenClaim := { program := "ytaolkplecdbadaa", sum := "43f8a4c44265e068f60601021677b659e64e8f1fae830ff25ce046919b304a97", func := "loop.example/pagebuilder/laws.FnRiversOf", spec := "fnRiversOf", unfollowed := true, recurses := true, apart := false }
def FnRiversOfSaid : Prop := fnRiversOfRow.holds Try.pinned (OpenSpec.ofChange fnRiversOfSpec)

/-- ITS FALSE NEIGHBOUR: 'it returns false'. Refute it at one input. -/
def fnRiversOfWrong : ChangeSpec := { name := "fnRiversOf", fn := fun _ => fun
  | [d] => { results := [.lit (.bool false)], args := [d] }
  | _ => none }
def FnRiversOfWrongFalsely : Prop := fnRiversOfRow.holds Try.pinned (OpenSpec.ofChange fnRiversOfWrong)

/-- 'laws.FnExactRiversOf': WHATEVER THE INPUT: true; the input reads as it did. -/
def fnExactRiversOfSpec : ChangeSpec := { name := "fnExactRiversOf", fn := fun _ => fun
  | [d1, d2] => { results := [.lit (.bool true)], args := [d1, d2] }
  | _ => none }
def fnExactRiversOfRow : OpenClaim := { program := "ytaolkplecdbadaa", sum := "43f8a4c44265e068f60601021677b659e64e8f1fae830ff25ce046919b304a97", func := "loop.example/pagebuilder/laws.FnExactRiversOf", spec := "fnExactRiversOf", unfollowed := true, recurses := true, apart := false }
def FnExactRiversOfSaid : Prop := fnExactRiversOfRow.holds Try.pinned (OpenSpec.ofChange fnExactRiversOfSpec)

/-- ITS FALSE NEIGHBOUR: 'it returns false'. Refute it at one input. -/
def fnExactRiversOfWrong : ChangeSpec := { name := "fnExactRiversOf", fn := fun _ => fun
  | [d1, d2] => { results := [.lit (.bool false)], args := [d1, d2] }
  | _ => none }
def FnExactRiversOfWrongFalsely : Prop := fnExactRiversOfRow.holds Try.pinned (OpenSpec.ofChange fnExactRiversOfWrong)

/-- 'laws.FnLongestRiver': WHATEVER THE INPUT: true; the input reads as it did. -/
def fnLongestRiverSpec : ChangeSpec := { name := "fnLongestRiver", fn := fun _ => fun
  | [d] => { results := [.lit (.bool true)], args := [d] }
  | _ => none }
def fnLongestRiverRow : OpenClaim := { program := "ytaolkplecdbadaa", sum := "43f8a4c44265e068f60601021677b659e64e8f1fae830ff25ce046919b304a97", func := "loop.example/pagebuilder/laws.FnLongestRiver", spec := "fnLongestRiver", unfollowed := true, recurses := true, apart := false }
def FnLongestRiverSaid : Prop := fnLongestRiverRow.holds Try.pinned (OpenSpec.ofChange fnLongestRiverSpec)

/-- ITS FALSE NEIGHBOUR: 'it returns false'. Refute it at one input. -/
def fnLongestRiverWrong : ChangeSpec := { name := "fnLongestRiver", fn := fun _ => fun
  | [d] => { results := [.lit (.bool false)], args := [d] }
  | _ => none }
def FnLongestRiverWrongFalsely : Prop := fnLongestRiverRow.holds Try.pinned (OpenSpec.ofChange fnLongestRiverWrong)

/-- 'laws.FnExactLongestRiver': WHATEVER THE INPUT: true; the input reads as it did. -/
def fnExactLongestRiverSpec : ChangeSpec := { name := "fnExactLongestRiver", fn := fun _ => fun
  | [d] => { results := [.lit (.bool true)], args := [d] }
  | _ => none }
def fnExactLongestRiverRow : OpenClaim := { program := "ytaolkplecdbadaa", sum := "43f8a4c44265e068f60601021677b659e64e8f1fae830ff25ce046919b304a97", func := "loop.example/pagebuilder/laws.FnExactLongestRiver", spec := "fnExactLongestRiver", unfollowed := true, recurses := true, apart := false }
def FnExactLongestRiverSaid : Prop := fnExactLongestRiverRow.holds Try.pinned (OpenSpec.ofChange fnExactLongestRiverSpec)

/-- ITS FALSE NEIGHBOUR: 'it returns false'. Refute it at one input. -/
def fnExactLongestRiverWrong : ChangeSpec := { name := "fnExactLongestRiver", fn := fun _ => fun
  | [d] => { results := [.lit (.bool false)], args := [d] }
  | _ => none }
def FnExactLongestRiverWrongFalsely : Prop := fnExactLongestRiverRow.holds Try.pinned (OpenSpec.ofChange fnExactLongestRiverWrong)

/- THE SECOND FORM. 'bulk': how many values and letters a reading holds, each counted each time it is reached (what is shared counts as often as it is met; a slice's spare places count too). A statement '..UptoSaid' is the law's where the arguments, and the package variables that the reading takes, are together of bulk at most 1048576: NARROWER than '..Said'. Prove '..Said' where nothing that the law and all that it calls make is longer than what came in: it says more and counts as full. Else prove '..UptoSaid'. A law counts once. -/
mutual
def uptoBulk {H : Type} : DataW H → Nat
  | .lit (.string bytes) => bytes.length + 1
  | .lit _ => 1
  | .nil => 1
  | .ptr d => uptoBulk d + 1
  | .slice elems spare => uptoBulkAll elems + uptoBulkAll spare + 1
  | .agg parts => uptoBulkAll parts + 1
  | .iface _ d => uptoBulk d + 1
  | .map entries => uptoBulkEntries entries + 1
  | .held _ => 1
def uptoBulkAll {H : Type} : List (DataW H) → Nat
  | [] => 0
  | d :: r => uptoBulk d + uptoBulkAll r
def uptoBulkEntries {H : Type} : List (Lit × DataW H) → Nat
  | [] => 0
  | x :: r => uptoBulkEntry x + uptoBulkEntries r
def uptoBulkEntry {H : Type} : Lit × DataW H → Nat
  | (.string bytes, d) => bytes.length + uptoBulk d + 1
  | (_, d) => uptoBulk d + 1
 end
def uptoSmall : (H : Type) → List (DataW H) → Bool := fun _ ds => decide (uptoBulkAll ds ≤ 1048576)
def OpenSpec.upto (s : _root_.Go.ChangeSpec) : _root_.Go.OpenSpec := { _root_.Go.OpenSpec.ofChange s with cond := some uptoSmall }

/-- 'laws.FnExactHyphenRow', WHERE WHAT IT READS IS OF BULK AT MOST 1048576: true; the input reads as it did. -/
def fnExactHyphenRowUptoRow : OpenClaim := { program := "ytaolkplecdbadaa", sum := "43f8a4c44265e068f60601021677b659e64e8f1fae830ff25ce046919b304a97", func := "loop.example/pagebuilder/laws.FnExactHyphenRow", spec := "fnExactHyphenRow", apart := false, narrowed := true }
def FnExactHyphenRowUptoSaid : Prop := fnExactHyphenRowUptoRow.holds Try.pinned (OpenSpec.upto fnExactHyphenRowSpec)

/-- 'laws.FnHyphenRow', WHERE WHAT IT READS IS OF BULK AT MOST 1048576: true; the input reads as it did. -/
def fnHyphenRowUptoRow : OpenClaim := { program := "ytaolkplecdbadaa", sum := "43f8a4c44265e068f60601021677b659e64e8f1fae830ff25ce046919b304a97", func := "loop.example/pagebuilder/laws.FnHyphenRow", spec := "fnHyphenRow", apart := false, narrowed := true }
def FnHyphenRowUptoSaid : Prop := fnHyphenRowUptoRow.holds Try.pinned (OpenSpec.upto fnHyphenRowSpec)

/-- 'laws.FnExactLonelyLines', WHERE WHAT IT READS IS OF BULK AT MOST 1048576: true; the input reads as it did. -/
def fnExactLonelyLinesUptoRow : OpenClaim := { program := "ytaolkplecdbadaa", sum := "43f8a4c44265e068f60601021677b659e64e8f1fae830ff25ce046919b304a97", func := "loop.example/pagebuilder/laws.FnExactLonelyLines", spec := "fnExactLonelyLines", apart := false, narrowed := true }
def FnExactLonelyLinesUptoSaid : Prop := fnExactLonelyLinesUptoRow.holds Try.pinned (OpenSpec.upto fnExactLonelyLinesSpec)

/-- 'laws.FnLonelyLines', WHERE WHAT IT READS IS OF BULK AT MOST 1048576: true; the input reads as it did. -/
def fnLonelyLinesUptoRow : OpenClaim := { program := "ytaolkplecdbadaa", sum := "43f8a4c44265e068f60601021677b659e64e8f1fae830ff25ce046919b304a97", func := "loop.example/pagebuilder/laws.FnLonelyLines", spec := "fnLonelyLines", apart := false, narrowed := true }
def FnLonelyLinesUptoSaid : Prop := fnLonelyLinesUptoRow.holds Try.pinned (OpenSpec.upto fnLonelyLinesSpec)

/-- 'laws.FnExactAvoidLonely', WHERE WHAT IT READS IS OF BULK AT MOST 1048576: true; the input reads as it did. -/
def fnExactAvoidLonelyUptoRow : OpenClaim := { program := "ytaolkplecdbadaa", sum := "43f8a4c44265e068f60601021677b659e64e8f1fae830ff25ce046919b304a97", func := "loop.example/pagebuilder/laws.FnExactAvoidLonely", spec := "fnExactAvoidLonely", apart := false, narrowed := true }
def FnExactAvoidLonelyUptoSaid : Prop := fnExactAvoidLonelyUptoRow.holds Try.pinned (OpenSpec.upto fnExactAvoidLonelySpec)

/-- 'laws.FnAvoidLonely', WHERE WHAT IT READS IS OF BULK AT MOST 1048576: true; the input reads as it did. -/
def fnAvoidLonelyUptoRow : OpenClaim := { program := "ytaolkplecdbadaa", sum := "43f8a4c44265e068f60601021677b659e64e8f1fae830ff25ce046919b304a97", func := "loop.example/pagebuilder/laws.FnAvoidLonely", spec := "fnAvoidLonely", apart := false, narrowed := true }
def FnAvoidLonelyUptoSaid : Prop := fnAvoidLonelyUptoRow.holds Try.pinned (OpenSpec.upto fnAvoidLonelySpec)

/-- 'laws.FnRiversOf', WHERE WHAT IT READS IS OF BULK AT MOST 1048576: true; the input reads as it did. -/
def fnRiversOfUptoRow : OpenClaim := { program := "ytaolkplecdbadaa", sum := "43f8a4c44265e068f60601021677b659e64e8f1fae830ff25ce046919b304a97", func := "loop.example/pagebuilder/laws.FnRiversOf", spec := "fnRiversOf", unfollowed := true, recurses := true, apart := false, narrowed := true }
def FnRiversOfUptoSaid : Prop := fnRiversOfUptoRow.holds Try.pinned (OpenSpec.upto fnRiversOfSpec)

/-- 'laws.FnExactRiversOf', WHERE WHAT IT READS IS OF BULK AT MOST 1048576: true; the input reads as it did. -/
def fnExactRiversOfUptoRow : OpenClaim := { program := "ytaolkplecdbadaa", sum := "43f8a4c44265e068f60601021677b659e64e8f1fae830ff25ce046919b304a97", func := "loop.example/pagebuilder/laws.FnExactRiversOf", spec := "fnExactRiversOf", unfollowed := true, recurses := true, apart := false, narrowed := true }
def FnExactRiversOfUptoSaid : Prop := fnExactRiversOfUptoRow.holds Try.pinned (OpenSpec.upto fnExactRiversOfSpec)

/-- 'laws.FnLongestRiver', WHERE WHAT IT READS IS OF BULK AT MOST 1048576: true; the input reads as it did. -/
def fnLongestRiverUptoRow : OpenClaim := { program := "ytaolkplecdbadaa", sum := "43f8a4c44265e068f60601021677b659e64e8f1fae830ff25ce046919b304a97", func := "loop.example/pagebuilder/laws.FnLongestRiver", spec := "fnLongestRiver", unfollowed := true, recurses := true, apart := false, narrowed := true }
def FnLongestRiverUptoSaid : Prop := fnLongestRiverUptoRow.holds Try.pinned (OpenSpec.upto fnLongestRiverSpec)

/-- 'laws.FnExactLongestRiver', WHERE WHAT IT READS IS OF BULK AT MOST 1048576: true; the input reads as it did. -/
def fnExactLongestRiverUptoRow : OpenClaim := { program := "ytaolkplecdbadaa", sum := "43f8a4c44265e068f60601021677b659e64e8f1fae830ff25ce046919b304a97", func := "loop.example/pagebuilder/laws.FnExactLongestRiver", spec := "fnExactLongestRiver", unfollowed := true, recurses := true, apart := false, narrowed := true }
def FnExactLongestRiverUptoSaid : Prop := fnExactLongestRiverUptoRow.holds Try.pinned (OpenSpec.upto fnExactLongestRiverSpec)

end Rows
end Go.Proofs.Ytaolkplecdbadaa

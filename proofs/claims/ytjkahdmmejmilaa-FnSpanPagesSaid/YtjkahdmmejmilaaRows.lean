/-
  No cell of these rows narrows 'for every input' (looked for: loops, veiled, ifaces, maps, wideKeys, modest, calm, conditions, laid).
  DERIVED. THE GIVEN ROWS OF THIS SEAT. 4 by the template 'for every input the law returns true; each argument reads behind the call as it read before'; 0 by the template 'total and deterministic' (their statements: YtjkahdmmejmilaaTotals.lean).
  GIVEN WITH THE SEED: the statements are not yours to turn. If you find one false, say at which input.
  Laid BY PROGRAM, IN A SANDBOX (cutbox-rows.mjs): the forced cells as the released guide's own fill.sh prints them over the translation c38d45ae3043aba9… (all of the seat's roots in one cut). By AI agents, Wed Nov 11 2026. No macro, syntax, notation, axiom, sorry.
-/
import Derived.Test.YtjkahdmmejmilaaChecked
import GoSem.Claim
import GoSem.ClaimJoined
import GoSem.ClaimMapViews
import Derived.JoinedTies
import Derived.KernelRfl
namespace Go.Proofs.Ytjkahdmmejmilaa
/- THE CELL 'sum', in the pinned program and in every row, IS THE sha256 OF THE DUMP (.gsa) THAT YtjkahdmmejmilaaProg.lean LOADS. Nothing in Lean hashes anything: it is a label: what it is worth is what the hold of that sum in a sandbox is worth. -/
noncomputable def Try.pinned : Pinned := { name := "ytjkahdmmejmilaa", sum := "c38d45ae3043aba97db14fbffa66e26f2f50f695d4f5f84833d51010442c0d6f", checked := Try.checked }
namespace Rows
def none {H : Type} : Left H := { results := [], args := [] }

/-- 'laws.FnExactSpansValid': WHATEVER THE INPUT: true; the input reads as it did. -/
def fnExactSpansValidSpec : ChangeSpec := { name := "fnExactSpansValid", fn := fun _ => fun
  | [d] => { results := [.lit (.bool true)], args := [d] }
  | _ => none }
def fnExactSpansValidRow : OpenClaim := { program := "ytjkahdmmejmilaa", sum := "c38d45ae3043aba97db14fbffa66e26f2f50f695d4f5f84833d51010442c0d6f", func := "loop.example/pagebuilder/laws.FnExactSpansValid", spec := "fnExactSpansValid", apart := false }
def FnExactSpansValidSaid : Prop := fnExactSpansValidRow.holds Try.pinned (OpenSpec.ofChange fnExactSpansValidSpec)

/-- ITS FALSE NEIGHBOUR: 'it returns false'. Refute it at one input. -/
def fnExactSpansValidWrong : ChangeSpec := { name := "fnExactSpansValid", fn := fun _ => fun
  | [d] => { results := [.lit (.bool false)], args := [d] }
  | _ => none }
def FnExactSpansValidWrongFalsely : Prop := fnExactSpansValidRow.holds Try.pinned (OpenSpec.ofChange fnExactSpansValidWrong)

/-- 'laws.FnSpansValid': WHATEVER THE INPUT: true; the input reads as it did. -/
def fnSpansValidSpec : ChangeSpec := { name := "fnSpansValid", fn := fun _ => fun
  | [d] => { results := [.lit (.bool true)], args := [d] }
  | _ => none }
def fnSpansValidRow : OpenClaim := { program := "ytjkahdmmejmilaa", sum := "c38d45ae3043aba97db14fbffa66e26f2f50f695d4f5f84833d51010442c0d6f", func := "loop.example/pagebuilder/laws.FnSpansValid", spec := "fnSpansValid", apart := false }
def FnSpansValidSaid : Prop := fnSpansValidRow.holds Try.pinned (OpenSpec.ofChange fnSpansValidSpec)

/-- ITS FALSE NEIGHBOUR: 'it returns false'. Refute it at one input. -/
def fnSpansValidWrong : ChangeSpec := { name := "fnSpansValid", fn := fun _ => fun
  | [d] => { results := [.lit (.bool false)], args := [d] }
  | _ => none }
def FnSpansValidWrongFalsely : Prop := fnSpansValidRow.holds Try.pinned (OpenSpec.ofChange fnSpansValidWrong)

/-- 'laws.FnSpanPages': WHATEVER THE INPUT: true; the input reads as it did. -/
def fnSpanPagesSpec : ChangeSpec := { name := "fnSpanPages", fn := fun _ => fun
  | [d] => { results := [.lit (.bool true)], args := [d] }
  | _ => none }
def fnSpanPagesRow : OpenClaim := { program := "ytjkahdmmejmilaa", sum := "c38d45ae3043aba97db14fbffa66e26f2f50f695d4f5f84833d51010442c0d6f", func := "loop.example/pagebuilder/laws.FnSpanPages", spec := "fnSpanPages", apart := false }
def FnSpanPagesSaid : Prop := fnSpanPagesRow.holds Try.pinned (OpenSpec.ofChange fnSpanPagesSpec)

/-- ITS FALSE NEIGHBOUR: 'it returns false'. Refute it at one input. -/
def fnSpanPagesWrong : ChangeSpec := { name := "fnSpanPages", fn := fun _ => fun
  | [d] => { results := [.lit (.bool false)], args := [d] }
  | _ => none }
def FnSpanPagesWrongFalsely : Prop := fnSpanPagesRow.holds Try.pinned (OpenSpec.ofChange fnSpanPagesWrong)

/-- 'laws.FnExactSpanPages': WHATEVER THE INPUT: true; the input reads as it did. -/
def fnExactSpanPagesSpec : ChangeSpec := { name := "fnExactSpanPages", fn := fun _ => fun
  | [d1, d2] => { results := [.lit (.bool true)], args := [d1, d2] }
  | _ => none }
def fnExactSpanPagesRow : OpenClaim := { program := "ytjkahdmmejmilaa", sum := "c38d45ae3043aba97db14fbffa66e26f2f50f695d4f5f84833d51010442c0d6f", func := "loop.example/pagebuilder/laws.FnExactSpanPages", spec := "fnExactSpanPages", apart := false }
def FnExactSpanPagesSaid : Prop := fnExactSpanPagesRow.holds Try.pinned (OpenSpec.ofChange fnExactSpanPagesSpec)

/-- ITS FALSE NEIGHBOUR: 'it returns false'. Refute it at one input. -/
def fnExactSpanPagesWrong : ChangeSpec := { name := "fnExactSpanPages", fn := fun _ => fun
  | [d1, d2] => { results := [.lit (.bool false)], args := [d1, d2] }
  | _ => none }
def FnExactSpanPagesWrongFalsely : Prop := fnExactSpanPagesRow.holds Try.pinned (OpenSpec.ofChange fnExactSpanPagesWrong)

/- THE SECOND FORM. 'bulk': how many values and letters a reading holds, each counted each time it is reached (what is shared counts as often as it is met; a slice's spare places count too). A statement '..UptoSaid' is the law's where the arguments, and the package variables that the reading takes, are together of bulk at most 1048576: NARROWER than '..Said'. Prove '..Said' where nothing that the law and all that it calls make is longer than what came in: it says more and counts as full. Else prove '..UptoSaid'. A law counts once. -/
mutual
def uptoBulk {H : Type} : DataW H → Nat
  | .lit (.string bytes) => bytes.length + 1
  | .lit _ => 1
  | .nil => 1
  | .ptr d => uptoBulk d + 1
  | .slice elems spare => uptoBulkAll elems + uptoBulkAll spare + 1
  | .agg parts => uptoBulkAll parts + 1
  | .iface _ d => uptoBulk d + 1
  | .map entries => uptoBulkEntries entries + 1
  | .held _ => 1
def uptoBulkAll {H : Type} : List (DataW H) → Nat
  | [] => 0
  | d :: r => uptoBulk d + uptoBulkAll r
def uptoBulkEntries {H : Type} : List (Lit × DataW H) → Nat
  | [] => 0
  | x :: r => uptoBulkEntry x + uptoBulkEntries r
def uptoBulkEntry {H : Type} : Lit × DataW H → Nat
  | (.string bytes, d) => bytes.length + uptoBulk d + 1
  | (_, d) => uptoBulk d + 1
 end
def uptoSmall : (H : Type) → List (DataW H) → Bool := fun _ ds => decide (uptoBulkAll ds ≤ 1048576)
def OpenSpec.upto (s : _root_.Go.ChangeSpec) : _root_.Go.OpenSpec := { _root_.Go.OpenSpec.ofChange s with cond := some uptoSmall }

/-- 'laws.FnExactSpansValid', WHERE WHAT IT READS IS OF BULK AT MOST 1048576: true; the input reads as it did. -/
def fnExactSpansValidUptoRow : OpenClaim := { program := "ytjkahdmmejmilaa", sum := "c38d45ae3043aba97db14fbffa66e26f2f50f695d4f5f84833d51010442c0d6f", func := "loop.example/pagebuilder/laws.FnExactSpansValid", spec := "fnExactSpansValid", apart := false, narrowed := true }
def FnExactSpansValidUptoSaid : Prop := fnExactSpansValidUptoRow.holds Try.pinned (OpenSpec.upto fnExactSpansValidSpec)

/-- 'laws.FnSpansValid', WHERE WHAT IT READS IS OF BULK AT MOST 1048576: true; the input reads as it did. -/
def fnSpansValidUptoRow : OpenClaim := { program := "ytjkahdmmejmilaa", sum := "c38d45ae3043aba97db14fbffa66e26f2f50f695d4f5f84833d51010442c0d6f", func := "loop.example/pagebuilder/laws.FnSpansValid", spec := "fnSpansValid", apart := false, narrowed := true }
def FnSpansValidUptoSaid : Prop := fnSpansValidUptoRow.holds Try.pinned (OpenSpec.upto fnSpansValidSpec)

/-- 'laws.FnSpanPages', WHERE WHAT IT READS IS OF BULK AT MOST 1048576: true; the input reads as it did. -/
def fnSpanPagesUptoRow : OpenClaim := { program := "ytjkahdmmejmilaa", sum := "c38d45ae3043aba97db14fbffa66e26f2f50f695d4f5f84833d51010442c0d6f", func := "loop.example/pagebuilder/laws.FnSpanPages", spec := "fnSpanPages", apart := false, narrowed := true }
def FnSpanPagesUptoSaid : Prop := fnSpanPagesUptoRow.holds Try.pinned (OpenSpec.upto fnSpanPagesSpec)

/-- 'laws.FnExactSpanPages', WHERE WHAT IT READS IS OF BULK AT MOST 1048576: true; the input reads as it did. -/
def fnExactSpanPagesUptoRow : OpenClaim := { program := "ytjkahdmmejmilaa", sum := "c38d45ae3043aba97db14fbffa66e26f2f50f695d4f5f84833d51010442c0d6f", func := "loop.example/pagebuilder/laws.FnExactSpanPages", spec := "fnExactSpanPages", apart := false, narrowed := true }
def FnExactSpanPagesUptoSaid : Prop := fnExactSpanPagesUptoRow.holds Try.pinned (OpenSpec.upto fnExactSpanPagesSpec)

end Rows
end Go.Proofs.Ytjkahdmmejmilaa

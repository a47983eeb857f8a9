/-
  No cell of these rows narrows 'for every input' (looked for: loops, veiled, ifaces, maps, wideKeys, modest, calm, conditions, laid).
  DERIVED. THE GIVEN ROWS OF THIS SEAT. 7 by the template 'for every input the law returns true; each argument reads behind the call as it read before'; 0 by the template 'total and deterministic' (their statements: YtoeaaoceicjmdaaTotals.lean).
  GIVEN WITH THE SEED: the statements are not yours to turn. If you find one false, say at which input.
  Laid BY PROGRAM, IN A SANDBOX (cutbox-rows.mjs): the forced cells as the released guide's own fill.sh prints them over the translation 3e0e3edfb5d18a1b… (all of the seat's roots in one cut). By AI agents, Wed Nov 11 2026. No macro, syntax, notation, axiom, sorry.
-/
import Derived.Test.YtoeaaoceicjmdaaChecked
import GoSem.Claim
import GoSem.ClaimJoined
import GoSem.ClaimMapViews
import Derived.JoinedTies
import Derived.KernelRfl
namespace Go.Proofs.Ytoeaaoceicjmdaa
/- THE CELL 'sum', in the pinned program and in every row, IS THE sha256 OF THE DUMP (.gsa) THAT YtoeaaoceicjmdaaProg.lean LOADS. Nothing in Lean hashes anything: it is a label: what it is worth is what the hold of that sum in a sandbox is worth. -/
noncomputable def Try.pinned : Pinned := { name := "ytoeaaoceicjmdaa", sum := "3e0e3edfb5d18a1b8331ad9e6b17fa23f83756b4cc0e9dd5a6f69ecb91e5d514", checked := Try.checked }
namespace Rows
def none {H : Type} : Left H := { results := [], args := [] }

/-- 'laws.FnExactInsetsValid': WHATEVER THE INPUT: true; the input reads as it did. -/
def fnExactInsetsValidSpec : ChangeSpec := { name := "fnExactInsetsValid", fn := fun _ => fun
  | [d] => { results := [.lit (.bool true)], args := [d] }
  | _ => none }
def fnExactInsetsValidRow : OpenClaim := { program := "ytoeaaoceicjmdaa", sum := "3e0e3edfb5d18a1b8331ad9e6b17fa23f83756b4cc0e9dd5a6f69ecb91e5d514", func := "loop.example/pagebuilder/laws.FnExactInsetsValid", spec := "fnExactInsetsValid", apart := false }
def FnExactInsetsValidSaid : Prop := fnExactInsetsValidRow.holds Try.pinned (OpenSpec.ofChange fnExactInsetsValidSpec)

/-- ITS FALSE NEIGHBOUR: 'it returns false'. Refute it at one input. -/
def fnExactInsetsValidWrong : ChangeSpec := { name := "fnExactInsetsValid", fn := fun _ => fun
  | [d] => { results := [.lit (.bool false)], args := [d] }
  | _ => none }
def FnExactInsetsValidWrongFalsely : Prop := fnExactInsetsValidRow.holds Try.pinned (OpenSpec.ofChange fnExactInsetsValidWrong)

/-- 'laws.FnInsetsValid': WHATEVER THE INPUT: true; the input reads as it did. -/
def fnInsetsValidSpec : ChangeSpec := { name := "fnInsetsValid", fn := fun _ => fun
  | [d] => { results := [.lit (.bool true)], args := [d] }
  | _ => none }
def fnInsetsValidRow : OpenClaim := { program := "ytoeaaoceicjmdaa", sum := "3e0e3edfb5d18a1b8331ad9e6b17fa23f83756b4cc0e9dd5a6f69ecb91e5d514", func := "loop.example/pagebuilder/laws.FnInsetsValid", spec := "fnInsetsValid", apart := false }
def FnInsetsValidSaid : Prop := fnInsetsValidRow.holds Try.pinned (OpenSpec.ofChange fnInsetsValidSpec)

/-- ITS FALSE NEIGHBOUR: 'it returns false'. Refute it at one input. -/
def fnInsetsValidWrong : ChangeSpec := { name := "fnInsetsValid", fn := fun _ => fun
  | [d] => { results := [.lit (.bool false)], args := [d] }
  | _ => none }
def FnInsetsValidWrongFalsely : Prop := fnInsetsValidRow.holds Try.pinned (OpenSpec.ofChange fnInsetsValidWrong)

/-- 'laws.FnExactPlaceInsets': WHATEVER THE INPUT: true; the input reads as it did. -/
def fnExactPlaceInsetsSpec : ChangeSpec := { name := "fnExactPlaceInsets", fn := fun _ => fun
  | [d1, d2] => { results := [.lit (.bool true)], args := [d1, d2] }
  | _ => none }
def fnExactPlaceInsetsRow : OpenClaim := { program := "ytoeaaoceicjmdaa", sum := "3e0e3edfb5d18a1b8331ad9e6b17fa23f83756b4cc0e9dd5a6f69ecb91e5d514", func := "loop.example/pagebuilder/laws.FnExactPlaceInsets", spec := "fnExactPlaceInsets", unfollowed := true, recurses := true, apart := false }
def FnExactPlaceInsetsSaid : Prop := fnExactPlaceInsetsRow.holds Try.pinned (OpenSpec.ofChange fnExactPlaceInsetsSpec)

/-- ITS FALSE NEIGHBOUR: 'it returns false'. Refute it at one input. -/
def fnExactPlaceInsetsWrong : ChangeSpec := { name := "fnExactPlaceInsets", fn := fun _ => fun
  | [d1, d2] => { results := [.lit (.bool false)], args := [d1, d2] }
  | _ => none }
def FnExactPlaceInsetsWrongFalsely : Prop := fnExactPlaceInsetsRow.holds Try.pinned (OpenSpec.ofChange fnExactPlaceInsetsWrong)

/-- 'laws.FnPlaceInsets': WHATEVER THE INPUT: true; the input reads as it did. -/
def fnPlaceInsetsSpec : ChangeSpec := { name := "fnPlaceInsets", fn := fun _ => fun
  | [d] => { results := [.lit (.bool true)], args := [d] }
  | _ => none }
def fnPlaceInsetsRow : OpenClaim := { program := "ytoeaaoceicjmdaa", sum := "3e0e3edfb5d18a1b8331ad9e6b17fa23f83756b4cc0e9dd5a6f69ecb91e5d514", func := "loop.example/pagebuilder/laws.FnPlaceInsets", spec := "fnPlaceInsets", unfollowed := true, recurses := true, apart := false }
def FnPlaceInsetsSaid : Prop := fnPlaceInsetsRow.holds Try.pinned (OpenSpec.ofChange fnPlaceInsetsSpec)

/-- ITS FALSE NEIGHBOUR: 'it returns false'. Refute it at one input. -/
def fnPlaceInsetsWrong : ChangeSpec := { name := "fnPlaceInsets", fn := fun _ => fun
  | [d] => { results := [.lit (.bool false)], args := [d] }
  | _ => none }
def FnPlaceInsetsWrongFalsely : Prop := fnPlaceInsetsRow.holds Try.pinned (OpenSpec.ofChange fnPlaceInsetsWrong)

/-- 'laws.FnInsetRoom': WHATEVER THE INPUT: true; the input reads as it did. -/
def fnInsetRoomSpec : ChangeSpec := { name := "fnInsetRoom", fn := fun _ => fun
  | [d] => { results := [.lit (.bool true)], args := [d] }
  | _ => none }
def fnInsetRoomRow : OpenClaim := { program := "ytoeaaoceicjmdaa", sum := "3e0e3edfb5d18a1b8331ad9e6b17fa23f83756b4cc0e9dd5a6f69ecb91e5d514", func := "loop.example/pagebuilder/laws.FnInsetRoom", spec := "fnInsetRoom", unfollowed := true, recurses := true, apart := false }
def FnInsetRoomSaid : Prop := fnInsetRoomRow.holds Try.pinned (OpenSpec.ofChange fnInsetRoomSpec)

/-- ITS FALSE NEIGHBOUR: 'it returns false'. Refute it at one input. -/
def fnInsetRoomWrong : ChangeSpec := { name := "fnInsetRoom", fn := fun _ => fun
  | [d] => { results := [.lit (.bool false)], args := [d] }
  | _ => none }
def FnInsetRoomWrongFalsely : Prop := fnInsetRoomRow.holds Try.pinned (OpenSpec.ofChange fnInsetRoomWrong)

/-- 'laws.FnExactInsetDelay': WHATEVER THE INPUT: true; the input reads as it did. -/
def fnExactInsetDelaySpec : ChangeSpec := { name := "fnExactInsetDelay", fn := fun _ => fun
  | [d1, d2] => { results := [.lit (.bool true)], args := [d1, d2] }
  | _ => none }
def fnExactInsetDelayRow : OpenClaim := { program := "ytoeaaoceicjmdaa", sum := "3e0e3edfb5d18a1b8331ad9e6b17fa23f83756b4cc0e9dd5a6f69ecb91e5d514", func := "loop.example/pagebuilder/laws.FnExactInsetDelay", spec := "fnExactInsetDelay", unfollowed := true, recurses := true, apart := false }
def FnExactInsetDelaySaid : Prop := fnExactInsetDelayRow.holds Try.pinned (OpenSpec.ofChange fnExactInsetDelaySpec)

/-- ITS FALSE NEIGHBOUR: 'it returns false'. Refute it at one input. -/
def fnExactInsetDelayWrong : ChangeSpec := { name := "fnExactInsetDelay", fn := fun _ => fun
  | [d1, d2] => { results := [.lit (.bool false)], args := [d1, d2] }
  | _ => none }
def FnExactInsetDelayWrongFalsely : Prop := fnExactInsetDelayRow.holds Try.pinned (OpenSpec.ofChange fnExactInsetDelayWrong)

/-- 'laws.FnInsetDelay': WHATEVER THE INPUT: true; the input reads as it did. -/
def fnInsetDelaySpec : ChangeSpec := { name := "fnInsetDelay", fn := fun _ => fun
  | [d] => { results := [.lit (.bool true)], args := [d] }
  | _ => none }
def fnInsetDelayRow : OpenClaim := { program := "ytoeaaoceicjmdaa", sum := "3e0e3edfb5d18a1b8331ad9e6b17fa23f83756b4cc0e9dd5a6f69ecb91e5d514", func := "loop.example/pagebuilder/laws.FnInsetDelay", spec := "fnInsetDelay", unfollowed := true, recurses := true, apart := false }
def FnInsetDelaySaid : Prop := fnInsetDelayRow.holds Try.pinned (OpenSpec.ofChange fnInsetDelaySpec)

/-- ITS FALSE NEIGHBOUR: 'it returns false'. Refute it at one input. -/
def fnInsetDelayWrong : ChangeSpec := { name := "fnInsetDelay", fn := fun _ => fun
  | [d] => { results := [.lit (.bool false)], args := [d] }
  | _ => none }
def FnInsetDelayWrongFalsely : Prop := fnInsetDelayRow.holds Try.pinned (OpenSpec.ofChange fnInsetDelayWrong)

/- THE SECOND FORM. 'bulk': how many values and letters a reading holds, each counted each time it is reached (what is shared counts as often as it is met; a slice's spare places count too). A statement '..UptoSaid' is the law's where the arguments, and the package variables that the reading takes, are together of bulk at most 1048576: NARROWER than '..Said'. Prove '..Said' where nothing that the law and all that it calls make is longer than what came in: it says more and counts as full. Else prove '..UptoSaid'. A law counts once. -/
mutual
def uptoBulk {H : Type} : DataW H → Nat
  | .lit (.string bytes) => bytes.length + 1
  | .lit _ => 1
  | .nil => 1
  | .ptr d => uptoBulk d + 1
  | .slice elems spare => uptoBulkAll elems + uptoBulkAll spare + 1
  | .agg parts => uptoBulkAll parts + 1
  | .iface _ d => uptoBulk d + 1
  | .map entries => uptoBulkEntries entries + 1
  | .held _ => 1
def uptoBulkAll {H : Type} : List (DataW H) → Nat
  | [] => 0
  | d :: r => uptoBulk d + uptoBulkAll r
def uptoBulkEntries {H : Type} : List (Lit × DataW H) → Nat
  | [] => 0
  | x :: r => uptoBulkEntry x + uptoBulkEntries r
def uptoBulkEntry {H : Type} : Lit × DataW H → Nat
  | (.string bytes, d) => bytes.length + uptoBulk d + 1
  | (_, d) => uptoBulk d + 1
 end
def uptoSmall : (H : Type) → List (DataW H) → Bool := fun _ ds => decide (uptoBulkAll ds ≤ 1048576)
def OpenSpec.upto (s : _root_.Go.ChangeSpec) : _root_.Go.OpenSpec := { _root_.Go.OpenSpec.ofChange s with cond := some uptoSmall }

/-- 'laws.FnExactInsetsValid', WHERE WHAT IT READS IS OF BULK AT MOST 1048576: true; the input reads as it did. -/
def fnExactInsetsValidUptoRow : OpenClaim := { program := "ytoeaaoceicjmdaa", sum := "3e0e3edfb5d18a1b8331ad9e6b17fa23f83756b4cc0e9dd5a6f69ecb91e5d514", func := "loop.example/pagebuilder/laws.FnExactInsetsValid", spec := "fnExactInsetsValid", apart := false, narrowed := true }
def FnExactInsetsValidUptoSaid : Prop := fnExactInsetsValidUptoRow.holds Try.pinned (OpenSpec.upto fnExactInsetsValidSpec)

/-- 'laws.FnInsetsValid', WHERE WHAT IT READS IS OF BULK AT MOST 1048576: true; the input reads as it did. -/
def fnInsetsValidUptoRow : OpenClaim := { program := "ytoeaaoceicjmdaa", sum := "3e0e3edfb5d18a1b8331ad9e6b17fa23f83756b4cc0e9dd5a6f69ecb91e5d514", func := "loop.example/pagebuilder/laws.FnInsetsValid", spec := "fnInsetsValid", apart := false, narrowed := true }
def FnInsetsValidUptoSaid : Prop := fnInsetsValidUptoRow.holds Try.pinned (OpenSpec.upto fnInsetsValidSpec)

/-- 'laws.FnExactPlaceInsets', WHERE WHAT IT READS IS OF BULK AT MOST 1048576: true; the input reads as it did. -/
def fnExactPlaceInsetsUptoRow : OpenClaim := { program := "ytoeaaoceicjmdaa", sum := "3e0e3edfb5d18a1b8331ad9e6b17fa23f83756b4cc0e9dd5a6f69ecb91e5d514", func := "loop.example/pagebuilder/laws.FnExactPlaceInsets", spec := "fnExactPlaceInsets", unfollowed := true, recurses := true, apart := false, narrowed := true }
def FnExactPlaceInsetsUptoSaid : Prop := fnExactPlaceInsetsUptoRow.holds Try.pinned (OpenSpec.upto fnExactPlaceInsetsSpec)

/-- 'laws.FnPlaceInsets', WHERE WHAT IT READS IS OF BULK AT MOST 1048576: true; the input reads as it did. -/
def fnPlaceInsetsUptoRow : OpenClaim := { program := "ytoeaaoceicjmdaa", sum := "3e0e3edfb5d18a1b8331ad9e6b17fa23f83756b4cc0e9dd5a6f69ecb91e5d514", func := "loop.example/pagebuilder/laws.FnPlaceInsets", spec := "fnPlaceInsets", unfollowed := true, recurses := true, apart := false, narrowed := true }
def FnPlaceInsetsUptoSaid : Prop := fnPlaceInsetsUptoRow.holds Try.pinned (OpenSpec.upto fnPlaceInsetsSpec)

/-- 'laws.FnInsetRoom', WHERE WHAT IT READS IS OF BULK AT MOST 1048576: true; the input reads as it did. -/
def fnInsetRoomUptoRow : OpenClaim := { program := "ytoeaaoceicjmdaa", sum := "3e0e3edfb5d18a1b8331ad9e6b17fa23f83756b4cc0e9dd5a6f69ecb91e5d514", func := "loop.example/pagebuilder/laws.FnInsetRoom", spec := "fnInsetRoom", unfollowed := true, recurses := true, apart := false, narrowed := true }
def FnInsetRoomUptoSaid : Prop := fnInsetRoomUptoRow.holds Try.pinned (OpenSpec.upto fnInsetRoomSpec)

/-- 'laws.FnExactInsetDelay', WHERE WHAT IT READS IS OF BULK AT MOST 1048576: true; the input reads as it did. -/
def fnExactInsetDelayUptoRow : OpenClaim := { program := "ytoeaaoceicjmdaa", sum := "3e0e3edfb5d18a1b8331ad9e6b17fa23f83756b4cc0e9dd5a6f69ecb91e5d514", func := "loop.example/pagebuilder/laws.FnExactInsetDelay", spec := "fnExactInsetDelay", unfollowed := true, recurses := true, apart := false, narrowed := true }
def FnExactInsetDelayUptoSaid : Prop := fnExactInsetDelayUptoRow.holds Try.pinned (OpenSpec.upto fnExactInsetDelaySpec)

/-- 'laws.FnInsetDelay', WHERE WHAT IT READS IS OF BULK AT MOST 1048576: true; the input reads as it did. -/
def fnInsetDelayUptoRow : OpenClaim := { program := "ytoeaaoceicjmdaa", sum := "3e0e3edfb5d18a1b8331ad9e6b17fa23f83756b4cc0e9dd5a6f69ecb91e5d514", func := "loop.example/pagebuilder/laws.FnInsetDelay", spec := "fnInsetDelay", unfollowed := true, recurses := true, apart := false, narrowed := true }
def FnInsetDelayUptoSaid : Prop := fnInsetDelayUptoRow.holds Try.pinned (OpenSpec.upto fnInsetDelaySpec)

end Rows
end Go.Proofs.Ytoeaaoceicjmdaa

/-
  No cell of these rows narrows 'for every input' (looked for: loops, veiled, ifaces, maps, wideKeys, modest, calm, conditions, laid).
  DERIVED. THE GIVEN ROWS OF THIS SEAT. 12 by the template 'for every input the law returns true; each argument reads behind the call as it read before'; 0 by the template 'total and deterministic' (their statements: YtkfdfjjcjcadgaaTotals.lean).
  GIVEN WITH THE SEED: the statements are not yours to turn. If you find one false, say at which input.
  Laid BY PROGRAM, IN A SANDBOX (cutbox-rows.mjs): the forced cells as the released guide's own fill.sh prints them over the translation fbee6dd1b9c4ca50… (all of the seat's roots in one cut). By AI agents, Wed Nov 11 2026. No macro, syntax, notation, axiom, sorry.
-/
import Derived.Test.YtkfdfjjcjcadgaaChecked
import GoSem.Claim
import GoSem.ClaimJoined
import GoSem.ClaimMapViews
import Derived.JoinedTies
import Derived.KernelRfl
namespace Go.Proofs.Ytkfdfjjcjcadgaa
/- THE CELL 'sum', in the pinned program and in every row, IS THE sha256 OF THE DUMP (.gsa) THAT YtkfdfjjcjcadgaaProg.lean LOADS. Nothing in Lean hashes anything: it is a label: what it is worth is what the hold of that sum in a sandbox is worth. -/
noncomputable def Try.pinned : Pinned := { name := "ytkfdfjjcjcadgaa", sum := "fbee6dd1b9c4ca50456fe7e45221836d79cd9991a10d33192aa9527c92536e7d", checked := Try.checked }
namespace Rows
def none {H : Type} : Left H := { results := [], args := [] }

/-- 'laws.FnExactConstants': WHATEVER THE INPUT: true; the input reads as it did. -/
def fnExactConstantsSpec : ChangeSpec := { name := "fnExactConstants", fn := fun _ => fun
  | [] => { results := [.lit (.bool true)], args := [] }
  | _ => none }
def fnExactConstantsRow : OpenClaim := { program := "ytkfdfjjcjcadgaa", sum := "fbee6dd1b9c4ca50456fe7e45221836d79cd9991a10d33192aa9527c92536e7d", func := "loop.example/g00196/laws.FnExactConstants", spec := "fnExactConstants", apart := false }
def FnExactConstantsSaid : Prop := fnExactConstantsRow.holds Try.pinned (OpenSpec.ofChange fnExactConstantsSpec)

/-- ITS FALSE NEIGHBOUR: 'it returns false'. Refute it at one input. -/
def fnExactConstantsWrong : ChangeSpec := { name := "fnExactConstants", fn := fun _ => fun
  | [] => { results := [.lit (.bool false)], args := [] }
  | _ => none }
def FnExactConstantsWrongFalsely : Prop := fnExactConstantsRow.holds Try.pinned (OpenSpec.ofChange fnExactConstantsWrong)

/-- 'laws.FnExactStateNew': WHATEVER THE INPUT: true; the input reads as it did. -/
def fnExactStateNewSpec : ChangeSpec := { name := "fnExactStateNew", fn := fun _ => fun
  | [] => { results := [.lit (.bool true)], args := [] }
  | _ => none }
def fnExactStateNewRow : OpenClaim := { program := "ytkfdfjjcjcadgaa", sum := "fbee6dd1b9c4ca50456fe7e45221836d79cd9991a10d33192aa9527c92536e7d", func := "loop.example/g00196/laws.FnExactStateNew", spec := "fnExactStateNew", apart := false }
def FnExactStateNewSaid : Prop := fnExactStateNewRow.holds Try.pinned (OpenSpec.ofChange fnExactStateNewSpec)

/-- ITS FALSE NEIGHBOUR: 'it returns false'. Refute it at one input. -/
def fnExactStateNewWrong : ChangeSpec := { name := "fnExactStateNew", fn := fun _ => fun
  | [] => { results := [.lit (.bool false)], args := [] }
  | _ => none }
def FnExactStateNewWrongFalsely : Prop := fnExactStateNewRow.holds Try.pinned (OpenSpec.ofChange fnExactStateNewWrong)

/-- 'laws.FnExactCount': WHATEVER THE INPUT: true; the input reads as it did. -/
def fnExactCountSpec : ChangeSpec := { name := "fnExactCount", fn := fun _ => fun
  | [d1, d2, d3] => { results := [.lit (.bool true)], args := [d1, d2, d3] }
  | _ => none }
def fnExactCountRow : OpenClaim := { program := "ytkfdfjjcjcadgaa", sum := "fbee6dd1b9c4ca50456fe7e45221836d79cd9991a10d33192aa9527c92536e7d", func := "loop.example/g00196/laws.FnExactCount", spec := "fnExactCount", apart := false }
def FnExactCountSaid : Prop := fnExactCountRow.holds Try.pinned (OpenSpec.ofChange fnExactCountSpec)

/-- ITS FALSE NEIGHBOUR: 'it returns false'. Refute it at one input. -/
def fnExactCountWrong : ChangeSpec := { name := "fnExactCount", fn := fun _ => fun
  | [d1, d2, d3] => { results := [.lit (.bool false)], args := [d1, d2, d3] }
  | _ => none }
def FnExactCountWrongFalsely : Prop := fnExactCountRow.holds Try.pinned (OpenSpec.ofChange fnExactCountWrong)

/-- 'laws.FnExactNth': WHATEVER THE INPUT: true; the input reads as it did. -/
def fnExactNthSpec : ChangeSpec := { name := "fnExactNth", fn := fun _ => fun
  | [d1, d2, d3, d4] => { results := [.lit (.bool true)], args := [d1, d2, d3, d4] }
  | _ => none }
def fnExactNthRow : OpenClaim := { program := "ytkfdfjjcjcadgaa", sum := "fbee6dd1b9c4ca50456fe7e45221836d79cd9991a10d33192aa9527c92536e7d", func := "loop.example/g00196/laws.FnExactNth", spec := "fnExactNth", apart := false }
def FnExactNthSaid : Prop := fnExactNthRow.holds Try.pinned (OpenSpec.ofChange fnExactNthSpec)

/-- ITS FALSE NEIGHBOUR: 'it returns false'. Refute it at one input. -/
def fnExactNthWrong : ChangeSpec := { name := "fnExactNth", fn := fun _ => fun
  | [d1, d2, d3, d4] => { results := [.lit (.bool false)], args := [d1, d2, d3, d4] }
  | _ => none }
def FnExactNthWrongFalsely : Prop := fnExactNthRow.holds Try.pinned (OpenSpec.ofChange fnExactNthWrong)

/-- 'laws.FnExactInsOk': WHATEVER THE INPUT: true; the input reads as it did. -/
def fnExactInsOkSpec : ChangeSpec := { name := "fnExactInsOk", fn := fun _ => fun
  | [d1, d2, d3] => { results := [.lit (.bool true)], args := [d1, d2, d3] }
  | _ => none }
def fnExactInsOkRow : OpenClaim := { program := "ytkfdfjjcjcadgaa", sum := "fbee6dd1b9c4ca50456fe7e45221836d79cd9991a10d33192aa9527c92536e7d", func := "loop.example/g00196/laws.FnExactInsOk", spec := "fnExactInsOk", apart := false }
def FnExactInsOkSaid : Prop := fnExactInsOkRow.holds Try.pinned (OpenSpec.ofChange fnExactInsOkSpec)

/-- ITS FALSE NEIGHBOUR: 'it returns false'. Refute it at one input. -/
def fnExactInsOkWrong : ChangeSpec := { name := "fnExactInsOk", fn := fun _ => fun
  | [d1, d2, d3] => { results := [.lit (.bool false)], args := [d1, d2, d3] }
  | _ => none }
def FnExactInsOkWrongFalsely : Prop := fnExactInsOkRow.holds Try.pinned (OpenSpec.ofChange fnExactInsOkWrong)

/-- 'laws.FnExactNumbers': WHATEVER THE INPUT: true; the input reads as it did. -/
def fnExactNumbersSpec : ChangeSpec := { name := "fnExactNumbers", fn := fun _ => fun
  | [d] => { results := [.lit (.bool true)], args := [d] }
  | _ => none }
def fnExactNumbersRow : OpenClaim := { program := "ytkfdfjjcjcadgaa", sum := "fbee6dd1b9c4ca50456fe7e45221836d79cd9991a10d33192aa9527c92536e7d", func := "loop.example/g00196/laws.FnExactNumbers", spec := "fnExactNumbers", apart := false }
def FnExactNumbersSaid : Prop := fnExactNumbersRow.holds Try.pinned (OpenSpec.ofChange fnExactNumbersSpec)

/-- ITS FALSE NEIGHBOUR: 'it returns false'. Refute it at one input. -/
def fnExactNumbersWrong : ChangeSpec := { name := "fnExactNumbers", fn := fun _ => fun
  | [d] => { results := [.lit (.bool false)], args := [d] }
  | _ => none }
def FnExactNumbersWrongFalsely : Prop := fnExactNumbersRow.holds Try.pinned (OpenSpec.ofChange fnExactNumbersWrong)

/-- 'laws.FnExactValues': WHATEVER THE INPUT: true; the input reads as it did. -/
def fnExactValuesSpec : ChangeSpec := { name := "fnExactValues", fn := fun _ => fun
  | [d1, d2, d3] => { results := [.lit (.bool true)], args := [d1, d2, d3] }
  | _ => none }
def fnExactValuesRow : OpenClaim := { program := "ytkfdfjjcjcadgaa", sum := "fbee6dd1b9c4ca50456fe7e45221836d79cd9991a10d33192aa9527c92536e7d", func := "loop.example/g00196/laws.FnExactValues", spec := "fnExactValues", apart := false }
def FnExactValuesSaid : Prop := fnExactValuesRow.holds Try.pinned (OpenSpec.ofChange fnExactValuesSpec)

/-- ITS FALSE NEIGHBOUR: 'it returns false'. Refute it at one input. -/
def fnExactValuesWrong : ChangeSpec := { name := "fnExactValues", fn := fun _ => fun
  | [d1, d2, d3] => { results := [.lit (.bool false)], args := [d1, d2, d3] }
  | _ => none }
def FnExactValuesWrongFalsely : Prop := fnExactValuesRow.holds Try.pinned (OpenSpec.ofChange fnExactValuesWrong)

/-- 'laws.FnExactStateOk': WHATEVER THE INPUT: true; the input reads as it did. -/
def fnExactStateOkSpec : ChangeSpec := { name := "fnExactStateOk", fn := fun _ => fun
  | [d1, d2] => { results := [.lit (.bool true)], args := [d1, d2] }
  | _ => none }
def fnExactStateOkRow : OpenClaim := { program := "ytkfdfjjcjcadgaa", sum := "fbee6dd1b9c4ca50456fe7e45221836d79cd9991a10d33192aa9527c92536e7d", func := "loop.example/g00196/laws.FnExactStateOk", spec := "fnExactStateOk", unfollowed := true, recurses := true, apart := false }
def FnExactStateOkSaid : Prop := fnExactStateOkRow.holds Try.pinned (OpenSpec.ofChange fnExactStateOkSpec)

/-- ITS FALSE NEIGHBOUR: 'it returns false'. Refute it at one input. -/
def fnExactStateOkWrong : ChangeSpec := { name := "fnExactStateOk", fn := fun _ => fun
  | [d1, d2] => { results := [.lit (.bool false)], args := [d1, d2] }
  | _ => none }
def FnExactStateOkWrongFalsely : Prop := fnExactStateOkRow.holds Try.pinned (OpenSpec.ofChange fnExactStateOkWrong)

/-- 'laws.FnExactProgOk': WHATEVER THE INPUT: true; the input reads as it did. -/
def fnExactProgOkSpec : ChangeSpec := { name := "fnExactProgOk", fn := fun _ => fun
  | [d1, d2] => { results := [.lit (.bool true)], args := [d1, d2] }
  | _ => none }
def fnExactProgOkRow : OpenClaim := { program := "ytkfdfjjcjcadgaa", sum := "fbee6dd1b9c4ca50456fe7e45221836d79cd9991a10d33192aa9527c92536e7d", func := "loop.example/g00196/laws.FnExactProgOk", spec := "fnExactProgOk", unfollowed := true, recurses := true, apart := false }
def FnExactProgOkSaid : Prop := fnExactProgOkRow.holds Try.pinned (OpenSpec.ofChange fnExactProgOkSpec)

/-- ITS FALSE NEIGHBOUR: 'it returns false'. Refute it at one input. -/
def fnExactProgOkWrong : ChangeSpec := { name := "fnExactProgOk", fn := fun _ => fun
  | [d1, d2] => { results := [.lit (.bool false)], args := [d1, d2] }
  | _ => none }
def FnExactProgOkWrongFalsely : Prop := fnExactProgOkRow.holds Try.pinned (OpenSpec.ofChange fnExactProgOkWrong)

/-- 'laws.FnProg': WHATEVER THE INPUT: true; the input reads as it did. -/
def fnProgSpec : ChangeSpec := { name := "fnProg", fn := fun _ => fun
  | [d] => { results := [.lit (.bool true)], args := [d] }
  | _ => none }
def fnProgRow : OpenClaim := { program := "ytkfdfjjcjcadgaa", sum := "fbee6dd1b9c4ca50456fe7e45221836d79cd9991a10d33192aa9527c92536e7d", func := "loop.example/g00196/laws.FnProg", spec := "fnProg", unfollowed := true, recurses := true, apart := false }
def FnProgSaid : Prop := fnProgRow.holds Try.pinned (OpenSpec.ofChange fnProgSpec)

/-- ITS FALSE NEIGHBOUR: 'it returns false'. Refute it at one input. -/
def fnProgWrong : ChangeSpec := { name := "fnProg", fn := fun _ => fun
  | [d] => { results := [.lit (.bool false)], args := [d] }
  | _ => none }
def FnProgWrongFalsely : Prop := fnProgRow.holds Try.pinned (OpenSpec.ofChange fnProgWrong)

/-- 'laws.FnExactNext': WHATEVER THE INPUT: true; the input reads as it did. -/
def fnExactNextSpec : ChangeSpec := { name := "fnExactNext", fn := fun _ => fun
  | [d1, d2] => { results := [.lit (.bool true)], args := [d1, d2] }
  | _ => none }
def fnExactNextRow : OpenClaim := { program := "ytkfdfjjcjcadgaa", sum := "fbee6dd1b9c4ca50456fe7e45221836d79cd9991a10d33192aa9527c92536e7d", func := "loop.example/g00196/laws.FnExactNext", spec := "fnExactNext", unfollowed := true, recurses := true, apart := false }
def FnExactNextSaid : Prop := fnExactNextRow.holds Try.pinned (OpenSpec.ofChange fnExactNextSpec)

/-- ITS FALSE NEIGHBOUR: 'it returns false'. Refute it at one input. -/
def fnExactNextWrong : ChangeSpec := { name := "fnExactNext", fn := fun _ => fun
  | [d1, d2] => { results := [.lit (.bool false)], args := [d1, d2] }
  | _ => none }
def FnExactNextWrongFalsely : Prop := fnExactNextRow.holds Try.pinned (OpenSpec.ofChange fnExactNextWrong)

/-- 'laws.FnCounted': WHATEVER THE INPUT: true; the input reads as it did. -/
def fnCountedSpec : ChangeSpec := { name := "fnCounted", fn := fun _ => fun
  | [d] => { results := [.lit (.bool true)], args := [d] }
  | _ => none }
def fnCountedRow : OpenClaim := { program := "ytkfdfjjcjcadgaa", sum := "fbee6dd1b9c4ca50456fe7e45221836d79cd9991a10d33192aa9527c92536e7d", func := "loop.example/g00196/laws.FnCounted", spec := "fnCounted", apart := false }
def FnCountedSaid : Prop := fnCountedRow.holds Try.pinned (OpenSpec.ofChange fnCountedSpec)

/-- ITS FALSE NEIGHBOUR: 'it returns false'. Refute it at one input. -/
def fnCountedWrong : ChangeSpec := { name := "fnCounted", fn := fun _ => fun
  | [d] => { results := [.lit (.bool false)], args := [d] }
  | _ => none }
def FnCountedWrongFalsely : Prop := fnCountedRow.holds Try.pinned (OpenSpec.ofChange fnCountedWrong)

/- THE SECOND FORM. 'bulk': how many values and letters a reading holds, each counted each time it is reached (what is shared counts as often as it is met; a slice's spare places count too). A statement '..UptoSaid' is the law's where the arguments, and the package variables that the reading takes, are together of bulk at most 1048576: NARROWER than '..Said'. Prove '..Said' where nothing that the law and all that it calls make is longer than what came in: it says more and counts as full. Else prove '..UptoSaid'. A law counts once. -/
mutual
def uptoBulk {H : Type} : DataW H → Nat
  | .lit (.string bytes) => bytes.length + 1
  | .lit _ => 1
  | .nil => 1
  | .ptr d => uptoBulk d + 1
  | .slice elems spare => uptoBulkAll elems + uptoBulkAll spare + 1
  | .agg parts => uptoBulkAll parts + 1
  | .iface _ d => uptoBulk d + 1
  | .map entries => uptoBulkEntries entries + 1
  | .held _ => 1
def uptoBulkAll {H : Type} : List (DataW H) → Nat
  | [] => 0
  | d :: r => uptoBulk d + uptoBulkAll r
def uptoBulkEntries {H : Type} : List (Lit × DataW H) → Nat
  | [] => 0
  | x :: r => uptoBulkEntry x + uptoBulkEntries r
def uptoBulkEntry {H : Type} : Lit × DataW H → Nat
  | (.string bytes, d) => bytes.length + uptoBulk d + 1
  | (_, d) => uptoBulk d + 1
 end
def uptoSmall : (H : Type) → List (DataW H) → Bool := fun _ ds => decide (uptoBulkAll ds ≤ 1048576)
def OpenSpec.upto (s : _root_.Go.ChangeSpec) : _root_.Go.OpenSpec := { _root_.Go.OpenSpec.ofChange s with cond := some uptoSmall }

/-- 'laws.FnExactConstants', WHERE WHAT IT READS IS OF BULK AT MOST 1048576: true; the input reads as it did. -/
def fnExactConstantsUptoRow : OpenClaim := { program := "ytkfdfjjcjcadgaa", sum := "fbee6dd1b9c4ca50456fe7e45221836d79cd9991a10d33192aa9527c92536e7d", func := "loop.example/g00196/laws.FnExactConstants", spec := "fnExactConstants", apart := false, narrowed := true }
def FnExactConstantsUptoSaid : Prop := fnExactConstantsUptoRow.holds Try.pinned (OpenSpec.upto fnExactConstantsSpec)

/-- 'laws.FnExactStateNew', WHERE WHAT IT READS IS OF BULK AT MOST 1048576: true; the input reads as it did. -/
def fnExactStateNewUptoRow : OpenClaim := { program := "ytkfdfjjcjcadgaa", sum := "fbee6dd1b9c4ca50456fe7e45221836d79cd9991a10d33192aa9527c92536e7d", func := "loop.example/g00196/laws.FnExactStateNew", spec := "fnExactStateNew", apart := false, narrowed := true }
def FnExactStateNewUptoSaid : Prop := fnExactStateNewUptoRow.holds Try.pinned (OpenSpec.upto fnExactStateNewSpec)

/-- 'laws.FnExactCount', WHERE WHAT IT READS IS OF BULK AT MOST 1048576: true; the input reads as it did. -/
def fnExactCountUptoRow : OpenClaim := { program := "ytkfdfjjcjcadgaa", sum := "fbee6dd1b9c4ca50456fe7e45221836d79cd9991a10d33192aa9527c92536e7d", func := "loop.example/g00196/laws.FnExactCount", spec := "fnExactCount", apart := false, narrowed := true }
def FnExactCountUptoSaid : Prop := fnExactCountUptoRow.holds Try.pinned (OpenSpec.upto fnExactCountSpec)

/-- 'laws.FnExactNth', WHERE WHAT IT READS IS OF BULK AT MOST 1048576: true; the input reads as it did. -/
def fnExactNthUptoRow : OpenClaim := { program := "ytkfdfjjcjcadgaa", sum := "fbee6dd1b9c4ca50456fe7e45221836d79cd9991a10d33192aa9527c92536e7d", func := "loop.example/g00196/laws.FnExactNth", spec := "fnExactNth", apart := false, narrowed := true }
def FnExactNthUptoSaid : Prop := fnExactNthUptoRow.holds Try.pinned (OpenSpec.upto fnExactNthSpec)

/-- 'laws.FnExactInsOk', WHERE WHAT IT READS IS OF BULK AT MOST 1048576: true; the input reads as it did. -/
def fnExactInsOkUptoRow : OpenClaim := { program := "ytkfdfjjcjcadgaa", sum := "fbee6dd1b9c4ca50456fe7e45221836d79cd9991a10d33192aa9527c92536e7d", func := "loop.example/g00196/laws.FnExactInsOk", spec := "fnExactInsOk", apart := false, narrowed := true }
def FnExactInsOkUptoSaid : Prop := fnExactInsOkUptoRow.holds Try.pinned (OpenSpec.upto fnExactInsOkSpec)

/-- 'laws.FnExactNumbers', WHERE WHAT IT READS IS OF BULK AT MOST 1048576: true; the input reads as it did. -/
def fnExactNumbersUptoRow : OpenClaim := { program := "ytkfdfjjcjcadgaa", sum := "fbee6dd1b9c4ca50456fe7e45221836d79cd9991a10d33192aa9527c92536e7d", func := "loop.example/g00196/laws.FnExactNumbers", spec := "fnExactNumbers", apart := false, narrowed := true }
def FnExactNumbersUptoSaid : Prop := fnExactNumbersUptoRow.holds Try.pinned (OpenSpec.upto fnExactNumbersSpec)

/-- 'laws.FnExactValues', WHERE WHAT IT READS IS OF BULK AT MOST 1048576: true; the input reads as it did. -/
def fnExactValuesUptoRow : OpenClaim := { program := "ytkfdfjjcjcadgaa", sum := "fbee6dd1b9c4ca50456fe7e45221836d79cd9991a10d33192aa9527c92536e7d", func := "loop.example/g00196/laws.FnExactValues", spec := "fnExactValues", apart := false, narrowed := true }
def FnExactValuesUptoSaid : Prop := fnExactValuesUptoRow.holds Try.pinned (OpenSpec.upto fnExactValuesSpec)

/-- 'laws.FnExactStateOk', WHERE WHAT IT READS IS OF BULK AT MOST 1048576: true; the input reads as it did. -/
def fnExactStateOkUptoRow : OpenClaim := { program := "ytkfdfjjcjcadgaa", sum := "fbee6dd1b9c4ca50456fe7e45221836d79cd9991a10d33192aa9527c92536e7d", func := "loop.example/g00196/laws.FnExactStateOk", spec := "fnExactStateOk", unfollowed := true, recurses := true, apart := false, narrowed := true }
def FnExactStateOkUptoSaid : Prop := fnExactStateOkUptoRow.holds Try.pinned (OpenSpec.upto fnExactStateOkSpec)

/-- 'laws.FnExactProgOk', WHERE WHAT IT READS IS OF BULK AT MOST 1048576: true; the input reads as it did. -/
def fnExactProgOkUptoRow : OpenClaim := { program := "ytkfdfjjcjcadgaa", sum := "fbee6dd1b9c4ca50456fe7e45221836d79cd9991a10d33192aa9527c92536e7d", func := "loop.example/g00196/laws.FnExactProgOk", spec := "fnExactProgOk", unfollowed := true, recurses := true, apart := false, narrowed := true }
def FnExactProgOkUptoSaid : Prop := fnExactProgOkUptoRow.holds Try.pinned (OpenSpec.upto fnExactProgOkSpec)

/-- 'laws.FnProg', WHERE WHAT IT READS IS OF BULK AT MOST 1048576: true; the input reads as it did. -/
def fnProgUptoRow : OpenClaim := { program := "ytkfdfjjcjcadgaa", sum := "fbee6dd1b9c4ca50456fe7e45221836d79cd9991a10d33192aa9527c92536e7d", func := "loop.example/g00196/laws.FnProg", spec := "fnProg", unfollowed := true, recurses := true, apart := false, narrowed := true }
def FnProgUptoSaid : Prop := fnProgUptoRow.holds Try.pinned (OpenSpec.upto fnProgSpec)

/-- 'laws.FnExactNext', WHERE WHAT IT READS IS OF BULK AT MOST 1048576: true; the input reads as it did. -/
def fnExactNextUptoRow : OpenClaim := { program := "ytkfdfjjcjcadgaa", sum := "fbee6dd1b9c4ca50456fe7e45221836d79cd9991a10d33192aa9527c92536e7d", func := "loop.example/g00196/laws.FnExactNext", spec := "fnExactNext", unfollowed := true, recurses := true, apart := false, narrowed := true }
def FnExactNextUptoSaid : Prop := fnExactNextUptoRow.holds Try.pinned (OpenSpec.upto fnExactNextSpec)

/-- 'laws.FnCounted', WHERE WHAT IT READS IS OF BULK AT MOST 1048576: true; the input reads as it did. -/
def fnCountedUptoRow : OpenClaim := { program := "ytkfdfjjcjcadgaa", sum := "fbee6dd1b9c4ca50456fe7e45221836d79cd9991a10d33192aa9527c92536e7d", func := "loop.example/g00196/laws.FnCounted", spec := "fnCounted", apart := false, narrowed := true }
def FnCountedUptoSaid : Prop := fnCountedUptoRow.holds Try.pinned (OpenSpec.upto fnCountedSpec)

end Rows
end Go.Proofs.Ytkfdfjjcjcadgaa

/-
  No cell of these rows narrows 'for every input' (looked for: loops, veiled, ifaces, maps, wideKeys, modest, calm, conditions, laid).
  DERIVED. THE GIVEN ROWS OF THIS SEAT. 6 by the template 'for every input the law returns true; each argument reads behind the call as it read before'; 0 by the template 'total and deterministic' (their statements: YtbdidcfjaohglaaTotals.lean).
  GIVEN WITH THE SEED: the statements are not yours to turn. If you find one false, say at which input.
  Laid BY PROGRAM, IN A SANDBOX (cutbox-rows.mjs): the forced cells as the released guide's own fill.sh prints them over the translation 11dfff21ce749aa9… (all of the seat's roots in one cut). By AI agents, Wed Nov 11 2026. No macro, syntax, notation, axiom, sorry.
-/
import Derived.Test.YtbdidcfjaohglaaChecked
import GoSem.Claim
import GoSem.ClaimJoined
import GoSem.ClaimMapViews
import Derived.JoinedTies
import Derived.KernelRfl
namespace Go.Proofs.Ytbdidcfjaohglaa
/- THE CELL 'sum', in the pinned program and in every row, IS THE sha256 OF THE DUMP (.gsa) THAT YtbdidcfjaohglaaProg.lean LOADS. Nothing in Lean hashes anything: it is a label: what it is worth is what the hold of that sum in a sandbox is worth. -/
noncomputable def Try.pinned : Pinned := { name := "ytbdidcfjaohglaa", sum := "11dfff21ce749aa986c3bebeb40ac5039dbeed071a2e89f41900ce3fedc2b915", checked := Try.checked }
namespace Rows
def none {H : Type} : Left H := { results := [], args := [] }

/-- 'laws.FnExactPrinted': WHATEVER THE INPUT: true; the input reads as it did. -/
def fnExactPrintedSpec : ChangeSpec := { name := "fnExactPrinted", fn := fun _ => fun
  | [d1, d2] => { results := [.lit (.bool true)], args := [d1, d2] }
  | _ => none }
def fnExactPrintedRow : OpenClaim := { program := "ytbdidcfjaohglaa", sum := "11dfff21ce749aa986c3bebeb40ac5039dbeed071a2e89f41900ce3fedc2b915", func := "loop.example/g00196/laws.FnExactPrinted", spec := "fnExactPrinted", apart := false }
def FnExactPrintedSaid : Prop := fnExactPrintedRow.holds Try.pinned (OpenSpec.ofChange fnExactPrintedSpec)

/-- ITS FALSE NEIGHBOUR: 'it returns false'. Refute it at one input. -/
def fnExactPrintedWrong : ChangeSpec := { name := "fnExactPrinted", fn := fun _ => fun
  | [d1, d2] => { results := [.lit (.bool false)], args := [d1, d2] }
  | _ => none }
def FnExactPrintedWrongFalsely : Prop := fnExactPrintedRow.holds Try.pinned (OpenSpec.ofChange fnExactPrintedWrong)

/-- 'laws.FnExactWayOf': WHATEVER THE INPUT: true; the input reads as it did. -/
def fnExactWayOfSpec : ChangeSpec := { name := "fnExactWayOf", fn := fun _ => fun
  | [d1, d2, d3] => { results := [.lit (.bool true)], args := [d1, d2, d3] }
  | _ => none }
def fnExactWayOfRow : OpenClaim := { program := "ytbdidcfjaohglaa", sum := "11dfff21ce749aa986c3bebeb40ac5039dbeed071a2e89f41900ce3fedc2b915", func := "loop.example/g00196/laws.FnExactWayOf", spec := "fnExactWayOf", apart := false }
def FnExactWayOfSaid : Prop := fnExactWayOfRow.holds Try.pinned (OpenSpec.ofChange fnExactWayOfSpec)

/-- ITS FALSE NEIGHBOUR: 'it returns false'. Refute it at one input. -/
def fnExactWayOfWrong : ChangeSpec := { name := "fnExactWayOf", fn := fun _ => fun
  | [d1, d2, d3] => { results := [.lit (.bool false)], args := [d1, d2, d3] }
  | _ => none }
def FnExactWayOfWrongFalsely : Prop := fnExactWayOfRow.holds Try.pinned (OpenSpec.ofChange fnExactWayOfWrong)

/-- 'laws.FnExactDo': WHATEVER THE INPUT: true; the input reads as it did. -/
def fnExactDoSpec : ChangeSpec := { name := "fnExactDo", fn := fun _ => fun
  | [d1, d2, d3] => { results := [.lit (.bool true)], args := [d1, d2, d3] }
  | _ => none }
def fnExactDoRow : OpenClaim := { program := "ytbdidcfjaohglaa", sum := "11dfff21ce749aa986c3bebeb40ac5039dbeed071a2e89f41900ce3fedc2b915", func := "loop.example/g00196/laws.FnExactDo", spec := "fnExactDo", unfollowed := true, recurses := true, apart := false }
def FnExactDoSaid : Prop := fnExactDoRow.holds Try.pinned (OpenSpec.ofChange fnExactDoSpec)

/-- ITS FALSE NEIGHBOUR: 'it returns false'. Refute it at one input. -/
def fnExactDoWrong : ChangeSpec := { name := "fnExactDo", fn := fun _ => fun
  | [d1, d2, d3] => { results := [.lit (.bool false)], args := [d1, d2, d3] }
  | _ => none }
def FnExactDoWrongFalsely : Prop := fnExactDoRow.holds Try.pinned (OpenSpec.ofChange fnExactDoWrong)

/-- 'laws.FnOnly': WHATEVER THE INPUT: true; the input reads as it did. -/
def fnOnlySpec : ChangeSpec := { name := "fnOnly", fn := fun _ => fun
  | [d] => { results := [.lit (.bool true)], args := [d] }
  | _ => none }
def fnOnlyRow : OpenClaim := { program := "ytbdidcfjaohglaa", sum := "11dfff21ce749aa986c3bebeb40ac5039dbeed071a2e89f41900ce3fedc2b915", func := "loop.example/g00196/laws.FnOnly", spec := "fnOnly", unfollowed := true, recurses := true, apart := false }
def FnOnlySaid : Prop := fnOnlyRow.holds Try.pinned (OpenSpec.ofChange fnOnlySpec)

/-- ITS FALSE NEIGHBOUR: 'it returns false'. Refute it at one input. -/
def fnOnlyWrong : ChangeSpec := { name := "fnOnly", fn := fun _ => fun
  | [d] => { results := [.lit (.bool false)], args := [d] }
  | _ => none }
def FnOnlyWrongFalsely : Prop := fnOnlyRow.holds Try.pinned (OpenSpec.ofChange fnOnlyWrong)

/-- 'laws.FnExactReplay': WHATEVER THE INPUT: true; the input reads as it did. -/
def fnExactReplaySpec : ChangeSpec := { name := "fnExactReplay", fn := fun _ => fun
  | [d1, d2] => { results := [.lit (.bool true)], args := [d1, d2] }
  | _ => none }
def fnExactReplayRow : OpenClaim := { program := "ytbdidcfjaohglaa", sum := "11dfff21ce749aa986c3bebeb40ac5039dbeed071a2e89f41900ce3fedc2b915", func := "loop.example/g00196/laws.FnExactReplay", spec := "fnExactReplay", unfollowed := true, recurses := true, apart := false }
def FnExactReplaySaid : Prop := fnExactReplayRow.holds Try.pinned (OpenSpec.ofChange fnExactReplaySpec)

/-- ITS FALSE NEIGHBOUR: 'it returns false'. Refute it at one input. -/
def fnExactReplayWrong : ChangeSpec := { name := "fnExactReplay", fn := fun _ => fun
  | [d1, d2] => { results := [.lit (.bool false)], args := [d1, d2] }
  | _ => none }
def FnExactReplayWrongFalsely : Prop := fnExactReplayRow.holds Try.pinned (OpenSpec.ofChange fnExactReplayWrong)

/-- 'laws.FnReplay': WHATEVER THE INPUT: true; the input reads as it did. -/
def fnReplaySpec : ChangeSpec := { name := "fnReplay", fn := fun _ => fun
  | [d] => { results := [.lit (.bool true)], args := [d] }
  | _ => none }
def fnReplayRow : OpenClaim := { program := "ytbdidcfjaohglaa", sum := "11dfff21ce749aa986c3bebeb40ac5039dbeed071a2e89f41900ce3fedc2b915", func := "loop.example/g00196/laws.FnReplay", spec := "fnReplay", unfollowed := true, recurses := true, apart := false }
def FnReplaySaid : Prop := fnReplayRow.holds Try.pinned (OpenSpec.ofChange fnReplaySpec)

/-- ITS FALSE NEIGHBOUR: 'it returns false'. Refute it at one input. -/
def fnReplayWrong : ChangeSpec := { name := "fnReplay", fn := fun _ => fun
  | [d] => { results := [.lit (.bool false)], args := [d] }
  | _ => none }
def FnReplayWrongFalsely : Prop := fnReplayRow.holds Try.pinned (OpenSpec.ofChange fnReplayWrong)

/- THE SECOND FORM. 'bulk': how many values and letters a reading holds, each counted each time it is reached (what is shared counts as often as it is met; a slice's spare places count too). A statement '..UptoSaid' is the law's where the arguments, and the package variables that the reading takes, are together of bulk at most 1048576: NARROWER than '..Said'. Prove '..Said' where nothing that the law and all that it calls make is longer than what came in: it says more and counts as full. Else prove '..UptoSaid'. A law counts once. -/
mutual
def uptoBulk {H : Type} : DataW H → Nat
  | .lit (.string bytes) => bytes.length + 1
  | .lit _ => 1
  | .nil => 1
  | .ptr d => uptoBulk d + 1
  | .slice elems spare => uptoBulkAll elems + uptoBulkAll spare + 1
  | .agg parts => uptoBulkAll parts + 1
  | .iface _ d => uptoBulk d + 1
  | .map entries => uptoBulkEntries entries + 1
  | .held _ => 1
def uptoBulkAll {H : Type} : List (DataW H) → Nat
  | [] => 0
  | d :: r => uptoBulk d + uptoBulkAll r
def uptoBulkEntries {H : Type} : List (Lit × DataW H) → Nat
  | [] => 0
  | x :: r => uptoBulkEntry x + uptoBulkEntries r
def uptoBulkEntry {H : Type} : Lit × DataW H → Nat
  | (.string bytes, d) => bytes.length + uptoBulk d + 1
  | (_, d) => uptoBulk d + 1
 end
def uptoSmall : (H : Type) → List (DataW H) → Bool := fun _ ds => decide (uptoBulkAll ds ≤ 1048576)
def OpenSpec.upto (s : _root_.Go.ChangeSpec) : _root_.Go.OpenSpec := { _root_.Go.OpenSpec.ofChange s with cond := some uptoSmall }

/-- 'laws.FnExactPrinted', WHERE WHAT IT READS IS OF BULK AT MOST 1048576: true; the input reads as it did. -/
def fnExactPrintedUptoRow : OpenClaim := { program := "ytbdidcfjaohglaa", sum := "11dfff21ce749aa986c3bebeb40ac5039dbeed071a2e89f41900ce3fedc2b915", func := "loop.example/g00196/laws.FnExactPrinted", spec := "fnExactPrinted", apart := false, narrowed := true }
def FnExactPrintedUptoSaid : Prop := fnExactPrintedUptoRow.holds Try.pinned (OpenSpec.upto fnExactPrintedSpec)

/-- 'laws.FnExactWayOf', WHERE WHAT IT READS IS OF BULK AT MOST 1048576: true; the input reads as it did. -/
def fnExactWayOfUptoRow : OpenClaim := { program := "ytbdidcfjaohglaa", sum := "11dfff21ce749aa986c3bebeb40ac5039dbeed071a2e89f41900ce3fedc2b915", func := "loop.example/g00196/laws.FnExactWayOf", spec := "fnExactWayOf", apart := false, narrowed := true }
def FnExactWayOfUptoSaid : Prop := fnExactWayOfUptoRow.holds Try.pinned (OpenSpec.upto fnExactWayOfSpec)

/-- 'laws.FnExactDo', WHERE WHAT IT READS IS OF BULK AT MOST 1048576: true; the input reads as it did. -/
def fnExactDoUptoRow : OpenClaim := { program := "ytbdidcfjaohglaa", sum := "11dfff21ce749aa986c3bebeb40ac5039dbeed071a2e89f41900ce3fedc2b915", func := "loop.example/g00196/laws.FnExactDo", spec := "fnExactDo", unfollowed := true, recurses := true, apart := false, narrowed := true }
def FnExactDoUptoSaid : Prop := fnExactDoUptoRow.holds Try.pinned (OpenSpec.upto fnExactDoSpec)

/-- 'laws.FnOnly', WHERE WHAT IT READS IS OF BULK AT MOST 1048576: true; the input reads as it did. -/
def fnOnlyUptoRow : OpenClaim := { program := "ytbdidcfjaohglaa", sum := "11dfff21ce749aa986c3bebeb40ac5039dbeed071a2e89f41900ce3fedc2b915", func := "loop.example/g00196/laws.FnOnly", spec := "fnOnly", unfollowed := true, recurses := true, apart := false, narrowed := true }
def FnOnlyUptoSaid : Prop := fnOnlyUptoRow.holds Try.pinned (OpenSpec.upto fnOnlySpec)

/-- 'laws.FnExactReplay', WHERE WHAT IT READS IS OF BULK AT MOST 1048576: true; the input reads as it did. -/
def fnExactReplayUptoRow : OpenClaim := { program := "ytbdidcfjaohglaa", sum := "11dfff21ce749aa986c3bebeb40ac5039dbeed071a2e89f41900ce3fedc2b915", func := "loop.example/g00196/laws.FnExactReplay", spec := "fnExactReplay", unfollowed := true, recurses := true, apart := false, narrowed := true }
def FnExactReplayUptoSaid : Prop := fnExactReplayUptoRow.holds Try.pinned (OpenSpec.upto fnExactReplaySpec)

/-- 'laws.FnReplay', WHERE WHAT IT READS IS OF BULK AT MOST 1048576: true; the input reads as it did. -/
def fnReplayUptoRow : OpenClaim := { program := "ytbdidcfjaohglaa", sum := "11dfff21ce749aa986c3bebeb40ac5039dbeed071a2e89f41900ce3fedc2b915", func := "loop.example/g00196/laws.FnReplay", spec := "fnReplay", unfollowed := true, recurses := true, apart := false, narrowed := true }
def FnReplayUptoSaid : Prop := fnReplayUptoRow.holds Try.pinned (OpenSpec.upto fnReplaySpec)

end Rows
end Go.Proofs.Ytbdidcfjaohglaa

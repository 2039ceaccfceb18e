/-
  No cell of these rows narrows 'for every input' (looked for: loops, veiled, ifaces, maps, wideKeys, modest, calm, conditions, laid).
  DERIVED. THE GIVEN ROWS OF THIS SEAT. 15 by the template 'for every input the law returns true; each argument reads behind the call as it read before'; 0 by the template 'total and deterministic' (their statements: YtkgkbkpgpbpjhaaGreatTotals.lean).
  GIVEN WITH THE SEED: the statements are not yours to turn. If you find one false, say at which input.
  Laid BY PROGRAM, IN A SANDBOX (cutbox-rows.mjs): the forced cells as the released guide's own fill.sh prints them over the translation 6207b985ceaa23fd… (all of the seat's roots in one cut). By AI agents, Wed Nov 11 2026. No macro, syntax, notation, axiom, sorry.
-/
import Derived.Test.YtkgkbkpgpbpjhaaGreatChecked
import GoSem.Claim
import GoSem.ClaimJoined
import GoSem.ClaimMapViews
import Derived.JoinedTies
import Derived.KernelRfl
namespace Go.Proofs.YtkgkbkpgpbpjhaaGreat
/- THE CELL 'sum', in the pinned program and in every row, IS THE sha256 OF THE DUMP (.gsa) THAT YtkgkbkpgpbpjhaaGreatProg.lean LOADS. Nothing in Lean hashes anything: it is a label: what it is worth is what the hold of that sum in a sandbox is worth. -/
noncomputable def Tryz.pinned : Pinned := { name := "ytkgkbkpgpbpjhaagreat", sum := "6207b985ceaa23fd9c36bdb650fe999466ad24d1f6871a5127e56447134dc3e6", checked := Tryz.checked }
namespace Rows
def none {H : Type} : Left H := { results := [], args := [] }

/-- 'laws.FnStep': WHATEVER THE INPUT: true; the input reads as it did. -/
def fnStepSpec : ChangeSpec := { name := "fnStep", fn := fun _ => fun
  | [d] => { results := [.lit (.bool true)], args := [d] }
  | _ => none }
def fnStepRow : OpenClaim := { program := "ytkgkbkpgpbpjhaagreat", sum := "6207b985ceaa23fd9c36bdb650fe999466ad24d1f6871a5127e56447134dc3e6", func := "loop.example/g00196/laws.FnStep", spec := "fnStep", unfollowed := true, recurses := true, apart := false }
def FnStepSaid : Prop := fnStepRow.holds Tryz.pinned (OpenSpec.ofChange fnStepSpec)

/-- ITS FALSE NEIGHBOUR: 'it returns false'. Refute it at one input. -/
def fnStepWrong : ChangeSpec := { name := "fnStep", fn := fun _ => fun
  | [d] => { results := [.lit (.bool false)], args := [d] }
  | _ => none }
def FnStepWrongFalsely : Prop := fnStepRow.holds Tryz.pinned (OpenSpec.ofChange fnStepWrong)

/-- 'laws.FnRun': WHATEVER THE INPUT: true; the input reads as it did. -/
def fnRunSpec : ChangeSpec := { name := "fnRun", fn := fun _ => fun
  | [d] => { results := [.lit (.bool true)], args := [d] }
  | _ => none }
def fnRunRow : OpenClaim := { program := "ytkgkbkpgpbpjhaagreat", sum := "6207b985ceaa23fd9c36bdb650fe999466ad24d1f6871a5127e56447134dc3e6", func := "loop.example/g00196/laws.FnRun", spec := "fnRun", unfollowed := true, recurses := true, apart := false }
def FnRunSaid : Prop := fnRunRow.holds Tryz.pinned (OpenSpec.ofChange fnRunSpec)

/-- ITS FALSE NEIGHBOUR: 'it returns false'. Refute it at one input. -/
def fnRunWrong : ChangeSpec := { name := "fnRun", fn := fun _ => fun
  | [d] => { results := [.lit (.bool false)], args := [d] }
  | _ => none }
def FnRunWrongFalsely : Prop := fnRunRow.holds Tryz.pinned (OpenSpec.ofChange fnRunWrong)

/-- 'laws.FnReady': WHATEVER THE INPUT: true; the input reads as it did. -/
def fnReadySpec : ChangeSpec := { name := "fnReady", fn := fun _ => fun
  | [d] => { results := [.lit (.bool true)], args := [d] }
  | _ => none }
def fnReadyRow : OpenClaim := { program := "ytkgkbkpgpbpjhaagreat", sum := "6207b985ceaa23fd9c36bdb650fe999466ad24d1f6871a5127e56447134dc3e6", func := "loop.example/g00196/laws.FnReady", spec := "fnReady", unfollowed := true, recurses := true, apart := false }
def FnReadySaid : Prop := fnReadyRow.holds Tryz.pinned (OpenSpec.ofChange fnReadySpec)

/-- ITS FALSE NEIGHBOUR: 'it returns false'. Refute it at one input. -/
def fnReadyWrong : ChangeSpec := { name := "fnReady", fn := fun _ => fun
  | [d] => { results := [.lit (.bool false)], args := [d] }
  | _ => none }
def FnReadyWrongFalsely : Prop := fnReadyRow.holds Tryz.pinned (OpenSpec.ofChange fnReadyWrong)

/-- 'laws.FnFair': WHATEVER THE INPUT: true; the input reads as it did. -/
def fnFairSpec : ChangeSpec := { name := "fnFair", fn := fun _ => fun
  | [d] => { results := [.lit (.bool true)], args := [d] }
  | _ => none }
def fnFairRow : OpenClaim := { program := "ytkgkbkpgpbpjhaagreat", sum := "6207b985ceaa23fd9c36bdb650fe999466ad24d1f6871a5127e56447134dc3e6", func := "loop.example/g00196/laws.FnFair", spec := "fnFair", unfollowed := true, recurses := true, apart := false }
def FnFairSaid : Prop := fnFairRow.holds Tryz.pinned (OpenSpec.ofChange fnFairSpec)

/-- ITS FALSE NEIGHBOUR: 'it returns false'. Refute it at one input. -/
def fnFairWrong : ChangeSpec := { name := "fnFair", fn := fun _ => fun
  | [d] => { results := [.lit (.bool false)], args := [d] }
  | _ => none }
def FnFairWrongFalsely : Prop := fnFairRow.holds Tryz.pinned (OpenSpec.ofChange fnFairWrong)

/-- 'laws.FnForth': WHATEVER THE INPUT: true; the input reads as it did. -/
def fnForthSpec : ChangeSpec := { name := "fnForth", fn := fun _ => fun
  | [d] => { results := [.lit (.bool true)], args := [d] }
  | _ => none }
def fnForthRow : OpenClaim := { program := "ytkgkbkpgpbpjhaagreat", sum := "6207b985ceaa23fd9c36bdb650fe999466ad24d1f6871a5127e56447134dc3e6", func := "loop.example/g00196/laws.FnForth", spec := "fnForth", unfollowed := true, recurses := true, apart := false }
def FnForthSaid : Prop := fnForthRow.holds Tryz.pinned (OpenSpec.ofChange fnForthSpec)

/-- ITS FALSE NEIGHBOUR: 'it returns false'. Refute it at one input. -/
def fnForthWrong : ChangeSpec := { name := "fnForth", fn := fun _ => fun
  | [d] => { results := [.lit (.bool false)], args := [d] }
  | _ => none }
def FnForthWrongFalsely : Prop := fnForthRow.holds Tryz.pinned (OpenSpec.ofChange fnForthWrong)

/-- 'laws.FnCuts': WHATEVER THE INPUT: true; the input reads as it did. -/
def fnCutsSpec : ChangeSpec := { name := "fnCuts", fn := fun _ => fun
  | [d] => { results := [.lit (.bool true)], args := [d] }
  | _ => none }
def fnCutsRow : OpenClaim := { program := "ytkgkbkpgpbpjhaagreat", sum := "6207b985ceaa23fd9c36bdb650fe999466ad24d1f6871a5127e56447134dc3e6", func := "loop.example/g00196/laws.FnCuts", spec := "fnCuts", unfollowed := true, recurses := true, apart := false }
def FnCutsSaid : Prop := fnCutsRow.holds Tryz.pinned (OpenSpec.ofChange fnCutsSpec)

/-- ITS FALSE NEIGHBOUR: 'it returns false'. Refute it at one input. -/
def fnCutsWrong : ChangeSpec := { name := "fnCuts", fn := fun _ => fun
  | [d] => { results := [.lit (.bool false)], args := [d] }
  | _ => none }
def FnCutsWrongFalsely : Prop := fnCutsRow.holds Tryz.pinned (OpenSpec.ofChange fnCutsWrong)

/-- 'laws.FnClock': WHATEVER THE INPUT: true; the input reads as it did. -/
def fnClockSpec : ChangeSpec := { name := "fnClock", fn := fun _ => fun
  | [d] => { results := [.lit (.bool true)], args := [d] }
  | _ => none }
def fnClockRow : OpenClaim := { program := "ytkgkbkpgpbpjhaagreat", sum := "6207b985ceaa23fd9c36bdb650fe999466ad24d1f6871a5127e56447134dc3e6", func := "loop.example/g00196/laws.FnClock", spec := "fnClock", unfollowed := true, recurses := true, apart := false }
def FnClockSaid : Prop := fnClockRow.holds Tryz.pinned (OpenSpec.ofChange fnClockSpec)

/-- ITS FALSE NEIGHBOUR: 'it returns false'. Refute it at one input. -/
def fnClockWrong : ChangeSpec := { name := "fnClock", fn := fun _ => fun
  | [d] => { results := [.lit (.bool false)], args := [d] }
  | _ => none }
def FnClockWrongFalsely : Prop := fnClockRow.holds Tryz.pinned (OpenSpec.ofChange fnClockWrong)

/-- 'laws.FnGreatest': WHATEVER THE INPUT: true; the input reads as it did. -/
def fnGreatestSpec : ChangeSpec := { name := "fnGreatest", fn := fun _ => fun
  | [d] => { results := [.lit (.bool true)], args := [d] }
  | _ => none }
def fnGreatestRow : OpenClaim := { program := "ytkgkbkpgpbpjhaagreat", sum := "6207b985ceaa23fd9c36bdb650fe999466ad24d1f6871a5127e56447134dc3e6", func := "loop.example/g00196/laws.FnGreatest", spec := "fnGreatest", unfollowed := true, recurses := true, apart := false }
def FnGreatestSaid : Prop := fnGreatestRow.holds Tryz.pinned (OpenSpec.ofChange fnGreatestSpec)

/-- ITS FALSE NEIGHBOUR: 'it returns false'. Refute it at one input. -/
def fnGreatestWrong : ChangeSpec := { name := "fnGreatest", fn := fun _ => fun
  | [d] => { results := [.lit (.bool false)], args := [d] }
  | _ => none }
def FnGreatestWrongFalsely : Prop := fnGreatestRow.holds Tryz.pinned (OpenSpec.ofChange fnGreatestWrong)

/-- 'laws.FnHangs': WHATEVER THE INPUT: true; the input reads as it did. -/
def fnHangsSpec : ChangeSpec := { name := "fnHangs", fn := fun _ => fun
  | [d] => { results := [.lit (.bool true)], args := [d] }
  | _ => none }
def fnHangsRow : OpenClaim := { program := "ytkgkbkpgpbpjhaagreat", sum := "6207b985ceaa23fd9c36bdb650fe999466ad24d1f6871a5127e56447134dc3e6", func := "loop.example/g00196/laws.FnHangs", spec := "fnHangs", unfollowed := true, recurses := true, apart := false }
def FnHangsSaid : Prop := fnHangsRow.holds Tryz.pinned (OpenSpec.ofChange fnHangsSpec)

/-- ITS FALSE NEIGHBOUR: 'it returns false'. Refute it at one input. -/
def fnHangsWrong : ChangeSpec := { name := "fnHangs", fn := fun _ => fun
  | [d] => { results := [.lit (.bool false)], args := [d] }
  | _ => none }
def FnHangsWrongFalsely : Prop := fnHangsRow.holds Tryz.pinned (OpenSpec.ofChange fnHangsWrong)

/-- 'laws.FnSide': WHATEVER THE INPUT: true; the input reads as it did. -/
def fnSideSpec : ChangeSpec := { name := "fnSide", fn := fun _ => fun
  | [d] => { results := [.lit (.bool true)], args := [d] }
  | _ => none }
def fnSideRow : OpenClaim := { program := "ytkgkbkpgpbpjhaagreat", sum := "6207b985ceaa23fd9c36bdb650fe999466ad24d1f6871a5127e56447134dc3e6", func := "loop.example/g00196/laws.FnSide", spec := "fnSide", unfollowed := true, recurses := true, apart := false }
def FnSideSaid : Prop := fnSideRow.holds Tryz.pinned (OpenSpec.ofChange fnSideSpec)

/-- ITS FALSE NEIGHBOUR: 'it returns false'. Refute it at one input. -/
def fnSideWrong : ChangeSpec := { name := "fnSide", fn := fun _ => fun
  | [d] => { results := [.lit (.bool false)], args := [d] }
  | _ => none }
def FnSideWrongFalsely : Prop := fnSideRow.holds Tryz.pinned (OpenSpec.ofChange fnSideWrong)

/-- 'laws.FnExactFair': WHATEVER THE INPUT: true; the input reads as it did. -/
def fnExactFairSpec : ChangeSpec := { name := "fnExactFair", fn := fun _ => fun
  | [d1, d2] => { results := [.lit (.bool true)], args := [d1, d2] }
  | _ => none }
def fnExactFairRow : OpenClaim := { program := "ytkgkbkpgpbpjhaagreat", sum := "6207b985ceaa23fd9c36bdb650fe999466ad24d1f6871a5127e56447134dc3e6", func := "loop.example/g00196/laws.FnExactFair", spec := "fnExactFair", unfollowed := true, recurses := true, apart := false }
def FnExactFairSaid : Prop := fnExactFairRow.holds Tryz.pinned (OpenSpec.ofChange fnExactFairSpec)

/-- ITS FALSE NEIGHBOUR: 'it returns false'. Refute it at one input. -/
def fnExactFairWrong : ChangeSpec := { name := "fnExactFair", fn := fun _ => fun
  | [d1, d2] => { results := [.lit (.bool false)], args := [d1, d2] }
  | _ => none }
def FnExactFairWrongFalsely : Prop := fnExactFairRow.holds Tryz.pinned (OpenSpec.ofChange fnExactFairWrong)

/-- 'laws.FnExactClock': WHATEVER THE INPUT: true; the input reads as it did. -/
def fnExactClockSpec : ChangeSpec := { name := "fnExactClock", fn := fun _ => fun
  | [d1, d2, d3] => { results := [.lit (.bool true)], args := [d1, d2, d3] }
  | _ => none }
def fnExactClockRow : OpenClaim := { program := "ytkgkbkpgpbpjhaagreat", sum := "6207b985ceaa23fd9c36bdb650fe999466ad24d1f6871a5127e56447134dc3e6", func := "loop.example/g00196/laws.FnExactClock", spec := "fnExactClock", unfollowed := true, recurses := true, apart := false }
def FnExactClockSaid : Prop := fnExactClockRow.holds Tryz.pinned (OpenSpec.ofChange fnExactClockSpec)

/-- ITS FALSE NEIGHBOUR: 'it returns false'. Refute it at one input. -/
def fnExactClockWrong : ChangeSpec := { name := "fnExactClock", fn := fun _ => fun
  | [d1, d2, d3] => { results := [.lit (.bool false)], args := [d1, d2, d3] }
  | _ => none }
def FnExactClockWrongFalsely : Prop := fnExactClockRow.holds Tryz.pinned (OpenSpec.ofChange fnExactClockWrong)

/-- 'laws.FnExactHangs': WHATEVER THE INPUT: true; the input reads as it did. -/
def fnExactHangsSpec : ChangeSpec := { name := "fnExactHangs", fn := fun _ => fun
  | [d1, d2, d3, d4, d5] => { results := [.lit (.bool true)], args := [d1, d2, d3, d4, d5] }
  | _ => none }
def fnExactHangsRow : OpenClaim := { program := "ytkgkbkpgpbpjhaagreat", sum := "6207b985ceaa23fd9c36bdb650fe999466ad24d1f6871a5127e56447134dc3e6", func := "loop.example/g00196/laws.FnExactHangs", spec := "fnExactHangs", unfollowed := true, recurses := true, apart := false }
def FnExactHangsSaid : Prop := fnExactHangsRow.holds Tryz.pinned (OpenSpec.ofChange fnExactHangsSpec)

/-- ITS FALSE NEIGHBOUR: 'it returns false'. Refute it at one input. -/
def fnExactHangsWrong : ChangeSpec := { name := "fnExactHangs", fn := fun _ => fun
  | [d1, d2, d3, d4, d5] => { results := [.lit (.bool false)], args := [d1, d2, d3, d4, d5] }
  | _ => none }
def FnExactHangsWrongFalsely : Prop := fnExactHangsRow.holds Tryz.pinned (OpenSpec.ofChange fnExactHangsWrong)

/-- 'laws.FnExactSide': WHATEVER THE INPUT: true; the input reads as it did. -/
def fnExactSideSpec : ChangeSpec := { name := "fnExactSide", fn := fun _ => fun
  | [d1, d2, d3, d4, d5] => { results := [.lit (.bool true)], args := [d1, d2, d3, d4, d5] }
  | _ => none }
def fnExactSideRow : OpenClaim := { program := "ytkgkbkpgpbpjhaagreat", sum := "6207b985ceaa23fd9c36bdb650fe999466ad24d1f6871a5127e56447134dc3e6", func := "loop.example/g00196/laws.FnExactSide", spec := "fnExactSide", unfollowed := true, recurses := true, apart := false }
def FnExactSideSaid : Prop := fnExactSideRow.holds Tryz.pinned (OpenSpec.ofChange fnExactSideSpec)

/-- ITS FALSE NEIGHBOUR: 'it returns false'. Refute it at one input. -/
def fnExactSideWrong : ChangeSpec := { name := "fnExactSide", fn := fun _ => fun
  | [d1, d2, d3, d4, d5] => { results := [.lit (.bool false)], args := [d1, d2, d3, d4, d5] }
  | _ => none }
def FnExactSideWrongFalsely : Prop := fnExactSideRow.holds Tryz.pinned (OpenSpec.ofChange fnExactSideWrong)

/-- 'laws.FnExactAt': WHATEVER THE INPUT: true; the input reads as it did. -/
def fnExactAtSpec : ChangeSpec := { name := "fnExactAt", fn := fun _ => fun
  | [d1, d2] => { results := [.lit (.bool true)], args := [d1, d2] }
  | _ => none }
def fnExactAtRow : OpenClaim := { program := "ytkgkbkpgpbpjhaagreat", sum := "6207b985ceaa23fd9c36bdb650fe999466ad24d1f6871a5127e56447134dc3e6", func := "loop.example/g00196/laws.FnExactAt", spec := "fnExactAt", unfollowed := true, recurses := true, apart := false }
def FnExactAtSaid : Prop := fnExactAtRow.holds Tryz.pinned (OpenSpec.ofChange fnExactAtSpec)

/-- ITS FALSE NEIGHBOUR: 'it returns false'. Refute it at one input. -/
def fnExactAtWrong : ChangeSpec := { name := "fnExactAt", fn := fun _ => fun
  | [d1, d2] => { results := [.lit (.bool false)], args := [d1, d2] }
  | _ => none }
def FnExactAtWrongFalsely : Prop := fnExactAtRow.holds Tryz.pinned (OpenSpec.ofChange fnExactAtWrong)

/- THE SECOND FORM. 'bulk': how many values and letters a reading holds, each counted each time it is reached (what is shared counts as often as it is met; a slice's spare places count too). A statement '..UptoSaid' is the law's where the arguments, and the package variables that the reading takes, are together of bulk at most 1048576: NARROWER than '..Said'. Prove '..Said' where nothing that the law and all that it calls make is longer than what came in: it says more and counts as full. Else prove '..UptoSaid'. A law counts once. -/
mutual
def uptoBulk {H : Type} : DataW H → Nat
  | .lit (.string bytes) => bytes.length + 1
  | .lit _ => 1
  | .nil => 1
  | .ptr d => uptoBulk d + 1
  | .slice elems spare => uptoBulkAll elems + uptoBulkAll spare + 1
  | .agg parts => uptoBulkAll parts + 1
  | .iface _ d => uptoBulk d + 1
  | .map entries => uptoBulkEntries entries + 1
  | .held _ => 1
def uptoBulkAll {H : Type} : List (DataW H) → Nat
  | [] => 0
  | d :: r => uptoBulk d + uptoBulkAll r
def uptoBulkEntries {H : Type} : List (Lit × DataW H) → Nat
  | [] => 0
  | x :: r => uptoBulkEntry x + uptoBulkEntries r
def uptoBulkEntry {H : Type} : Lit × DataW H → Nat
  | (.string bytes, d) => bytes.length + uptoBulk d + 1
  | (_, d) => uptoBulk d + 1
 end
def uptoSmall : (H : Type) → List (DataW H) → Bool := fun _ ds => decide (uptoBulkAll ds ≤ 1048576)
def OpenSpec.upto (s : _root_.Go.ChangeSpec) : _root_.Go.OpenSpec := { _root_.Go.OpenSpec.ofChange s with cond := some uptoSmall }

/-- 'laws.FnStep', WHERE WHAT IT READS IS OF BULK AT MOST 1048576: true; the input reads as it did. -/
def fnStepUptoRow : OpenClaim := { program := "ytkgkbkpgpbpjhaagreat", sum := "6207b985ceaa23fd9c36bdb650fe999466ad24d1f6871a5127e56447134dc3e6", func := "loop.example/g00196/laws.FnStep", spec := "fnStep", unfollowed := true, recurses := true, apart := false, narrowed := true }
def FnStepUptoSaid : Prop := fnStepUptoRow.holds Tryz.pinned (OpenSpec.upto fnStepSpec)

/-- 'laws.FnRun', WHERE WHAT IT READS IS OF BULK AT MOST 1048576: true; the input reads as it did. -/
def fnRunUptoRow : OpenClaim := { program := "ytkgkbkpgpbpjhaagreat", sum := "6207b985ceaa23fd9c36bdb650fe999466ad24d1f6871a5127e56447134dc3e6", func := "loop.example/g00196/laws.FnRun", spec := "fnRun", unfollowed := true, recurses := true, apart := false, narrowed := true }
def FnRunUptoSaid : Prop := fnRunUptoRow.holds Tryz.pinned (OpenSpec.upto fnRunSpec)

/-- 'laws.FnReady', WHERE WHAT IT READS IS OF BULK AT MOST 1048576: true; the input reads as it did. -/
def fnReadyUptoRow : OpenClaim := { program := "ytkgkbkpgpbpjhaagreat", sum := "6207b985ceaa23fd9c36bdb650fe999466ad24d1f6871a5127e56447134dc3e6", func := "loop.example/g00196/laws.FnReady", spec := "fnReady", unfollowed := true, recurses := true, apart := false, narrowed := true }
def FnReadyUptoSaid : Prop := fnReadyUptoRow.holds Tryz.pinned (OpenSpec.upto fnReadySpec)

/-- 'laws.FnFair', WHERE WHAT IT READS IS OF BULK AT MOST 1048576: true; the input reads as it did. -/
def fnFairUptoRow : OpenClaim := { program := "ytkgkbkpgpbpjhaagreat", sum := "6207b985ceaa23fd9c36bdb650fe999466ad24d1f6871a5127e56447134dc3e6", func := "loop.example/g00196/laws.FnFair", spec := "fnFair", unfollowed := true, recurses := true, apart := false, narrowed := true }
def FnFairUptoSaid : Prop := fnFairUptoRow.holds Tryz.pinned (OpenSpec.upto fnFairSpec)

/-- 'laws.FnForth', WHERE WHAT IT READS IS OF BULK AT MOST 1048576: true; the input reads as it did. -/
def fnForthUptoRow : OpenClaim := { program := "ytkgkbkpgpbpjhaagreat", sum := "6207b985ceaa23fd9c36bdb650fe999466ad24d1f6871a5127e56447134dc3e6", func := "loop.example/g00196/laws.FnForth", spec := "fnForth", unfollowed := true, recurses := true, apart := false, narrowed := true }
def FnForthUptoSaid : Prop := fnForthUptoRow.holds Tryz.pinned (OpenSpec.upto fnForthSpec)

/-- 'laws.FnCuts', WHERE WHAT IT READS IS OF BULK AT MOST 1048576: true; the input reads as it did. -/
def fnCutsUptoRow : OpenClaim := { program := "ytkgkbkpgpbpjhaagreat", sum := "6207b985ceaa23fd9c36bdb650fe999466ad24d1f6871a5127e56447134dc3e6", func := "loop.example/g00196/laws.FnCuts", spec := "fnCuts", unfollowed := true, recurses := true, apart := false, narrowed := true }
def FnCutsUptoSaid : Prop := fnCutsUptoRow.holds Tryz.pinned (OpenSpec.upto fnCutsSpec)

/-- 'laws.FnClock', WHERE WHAT IT READS IS OF BULK AT MOST 1048576: true; the input reads as it did. -/
def fnClockUptoRow : OpenClaim := { program := "ytkgkbkpgpbpjhaagreat", sum := "6207b985ceaa23fd9c36bdb650fe999466ad24d1f6871a5127e56447134dc3e6", func := "loop.example/g00196/laws.FnClock", spec := "fnClock", unfollowed := true, recurses := true, apart := false, narrowed := true }
def FnClockUptoSaid : Prop := fnClockUptoRow.holds Tryz.pinned (OpenSpec.upto fnClockSpec)

/-- 'laws.FnGreatest', WHERE WHAT IT READS IS OF BULK AT MOST 1048576: true; the input reads as it did. -/
def fnGreatestUptoRow : OpenClaim := { program := "ytkgkbkpgpbpjhaagreat", sum := "6207b985ceaa23fd9c36bdb650fe999466ad24d1f6871a5127e56447134dc3e6", func := "loop.example/g00196/laws.FnGreatest", spec := "fnGreatest", unfollowed := true, recurses := true, apart := false, narrowed := true }
def FnGreatestUptoSaid : Prop := fnGreatestUptoRow.holds Tryz.pinned (OpenSpec.upto fnGreatestSpec)

/-- 'laws.FnHangs', WHERE WHAT IT READS IS OF BULK AT MOST 1048576: true; the input reads as it did. -/
def fnHangsUptoRow : OpenClaim := { program := "ytkgkbkpgpbpjhaagreat", sum := "6207b985ceaa23fd9c36bdb650fe999466ad24d1f6871a5127e56447134dc3e6", func := "loop.example/g00196/laws.FnHangs", spec := "fnHangs", unfollowed := true, recurses := true, apart := false, narrowed := true }
def FnHangsUptoSaid : Prop := fnHangsUptoRow.holds Tryz.pinned (OpenSpec.upto fnHangsSpec)

/-- 'laws.FnSide', WHERE WHAT IT READS IS OF BULK AT MOST 1048576: true; the input reads as it did. -/
def fnSideUptoRow : OpenClaim := { program := "ytkgkbkpgpbpjhaagreat", sum := "6207b985ceaa23fd9c36bdb650fe999466ad24d1f6871a5127e56447134dc3e6", func := "loop.example/g00196/laws.FnSide", spec := "fnSide", unfollowed := true, recurses := true, apart := false, narrowed := true }
def FnSideUptoSaid : Prop := fnSideUptoRow.holds Tryz.pinned (OpenSpec.upto fnSideSpec)

/-- 'laws.FnExactFair', WHERE WHAT IT READS IS OF BULK AT MOST 1048576: true; the input reads as it did. -/
def fnExactFairUptoRow : OpenClaim := { program := "ytkgkbkpgpbpjhaagreat", sum := "6207b985ceaa23fd9c36bdb650fe999466ad24d1f6871a5127e56447134dc3e6", func := "loop.example/g00196/laws.FnExactFair", spec := "fnExactFair", unfollowed := true, recurses := true, apart := false, narrowed := true }
def FnExactFairUptoSaid : Prop := fnExactFairUptoRow.holds Tryz.pinned (OpenSpec.upto fnExactFairSpec)

/-- 'laws.FnExactClock', WHERE WHAT IT READS IS OF BULK AT MOST 1048576: true; the input reads as it did. -/
def fnExactClockUptoRow : OpenClaim := { program := "ytkgkbkpgpbpjhaagreat", sum := "6207b985ceaa23fd9c36bdb650fe999466ad24d1f6871a5127e56447134dc3e6", func := "loop.example/g00196/laws.FnExactClock", spec := "fnExactClock", unfollowed := true, recurses := true, apart := false, narrowed := true }
def FnExactClockUptoSaid : Prop := fnExactClockUptoRow.holds Tryz.pinned (OpenSpec.upto fnExactClockSpec)

/-- 'laws.FnExactHangs', WHERE WHAT IT READS IS OF BULK AT MOST 1048576: true; the input reads as it did. -/
def fnExactHangsUptoRow : OpenClaim := { program := "ytkgkbkpgpbpjhaagreat", sum := "6207b985ceaa23fd9c36bdb650fe999466ad24d1f6871a5127e56447134dc3e6", func := "loop.example/g00196/laws.FnExactHangs", spec := "fnExactHangs", unfollowed := true, recurses := true, apart := false, narrowed := true }
def FnExactHangsUptoSaid : Prop := fnExactHangsUptoRow.holds Tryz.pinned (OpenSpec.upto fnExactHangsSpec)

/-- 'laws.FnExactSide', WHERE WHAT IT READS IS OF BULK AT MOST 1048576: true; the input reads as it did. -/
def fnExactSideUptoRow : OpenClaim := { program := "ytkgkbkpgpbpjhaagreat", sum := "6207b985ceaa23fd9c36bdb650fe999466ad24d1f6871a5127e56447134dc3e6", func := "loop.example/g00196/laws.FnExactSide", spec := "fnExactSide", unfollowed := true, recurses := true, apart := false, narrowed := true }
def FnExactSideUptoSaid : Prop := fnExactSideUptoRow.holds Tryz.pinned (OpenSpec.upto fnExactSideSpec)

/-- 'laws.FnExactAt', WHERE WHAT IT READS IS OF BULK AT MOST 1048576: true; the input reads as it did. -/
def fnExactAtUptoRow : OpenClaim := { program := "ytkgkbkpgpbpjhaagreat", sum := "6207b985ceaa23fd9c36bdb650fe999466ad24d1f6871a5127e56447134dc3e6", func := "loop.example/g00196/laws.FnExactAt", spec := "fnExactAt", unfollowed := true, recurses := true, apart := false, narrowed := true }
def FnExactAtUptoSaid : Prop := fnExactAtUptoRow.holds Tryz.pinned (OpenSpec.upto fnExactAtSpec)

end Rows
end Go.Proofs.YtkgkbkpgpbpjhaaGreat

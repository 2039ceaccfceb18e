/-
  No cell of these rows narrows 'for every input' (looked for: loops, veiled, ifaces, maps, wideKeys, modest, calm, conditions, laid).
  DERIVED. THE GIVEN ROWS OF THIS SEAT. 17 by the template 'for every input the law returns true; each argument reads behind the call as it read before'; 0 by the template 'total and deterministic' (their statements: YtiejcppjjmmihaaGreatTotals.lean).
  GIVEN WITH THE SEED: the statements are not yours to turn. If you find one false, say at which input.
  Laid BY PROGRAM, IN A SANDBOX (cutbox-rows.mjs): the forced cells as the released guide's own fill.sh prints them over the translation 68e9270443157552… (all of the seat's roots in one cut). By AI agents, Wed Nov 11 2026. No macro, syntax, notation, axiom, sorry.
-/
import Derived.Test.YtiejcppjjmmihaaGreatChecked
import GoSem.Claim
import GoSem.ClaimJoined
import GoSem.ClaimMapViews
import Derived.JoinedTies
import Derived.KernelRfl
namespace Go.Proofs.YtiejcppjjmmihaaGreat
/- THE CELL 'sum', in the pinned program and in every row, IS THE sha256 OF THE DUMP (.gsa) THAT YtiejcppjjmmihaaGreatProg.lean LOADS. Nothing in Lean hashes anything: it is a label: what it is worth is what the hold of that sum in a sandbox is worth. -/
noncomputable def Tryz.pinned : Pinned := { name := "ytiejcppjjmmihaagreat", sum := "68e9270443157552f20d2f745b682b0090b93ab1d11ae3cdcf482b8abd5f50a8", checked := Tryz.checked }
namespace Rows
def none {H : Type} : Left H := { results := [], args := [] }

/-- 'laws.FnExactSysOk': WHATEVER THE INPUT: true; the input reads as it did. -/
def fnExactSysOkSpec : ChangeSpec := { name := "fnExactSysOk", fn := fun _ => fun
  | [d] => { results := [.lit (.bool true)], args := [d] }
  | _ => none }
def fnExactSysOkRow : OpenClaim := { program := "ytiejcppjjmmihaagreat", sum := "68e9270443157552f20d2f745b682b0090b93ab1d11ae3cdcf482b8abd5f50a8", func := "loop.example/g00196/laws.FnExactSysOk", spec := "fnExactSysOk", unfollowed := true, recurses := true, apart := false }
def FnExactSysOkSaid : Prop := fnExactSysOkRow.holds Tryz.pinned (OpenSpec.ofChange fnExactSysOkSpec)

/-- ITS FALSE NEIGHBOUR: 'it returns false'. Refute it at one input. -/
def fnExactSysOkWrong : ChangeSpec := { name := "fnExactSysOk", fn := fun _ => fun
  | [d] => { results := [.lit (.bool false)], args := [d] }
  | _ => none }
def FnExactSysOkWrongFalsely : Prop := fnExactSysOkRow.holds Tryz.pinned (OpenSpec.ofChange fnExactSysOkWrong)

/-- 'laws.FnExactCutOk': WHATEVER THE INPUT: true; the input reads as it did. -/
def fnExactCutOkSpec : ChangeSpec := { name := "fnExactCutOk", fn := fun _ => fun
  | [d1, d2] => { results := [.lit (.bool true)], args := [d1, d2] }
  | _ => none }
def fnExactCutOkRow : OpenClaim := { program := "ytiejcppjjmmihaagreat", sum := "68e9270443157552f20d2f745b682b0090b93ab1d11ae3cdcf482b8abd5f50a8", func := "loop.example/g00196/laws.FnExactCutOk", spec := "fnExactCutOk", unfollowed := true, recurses := true, apart := false }
def FnExactCutOkSaid : Prop := fnExactCutOkRow.holds Tryz.pinned (OpenSpec.ofChange fnExactCutOkSpec)

/-- ITS FALSE NEIGHBOUR: 'it returns false'. Refute it at one input. -/
def fnExactCutOkWrong : ChangeSpec := { name := "fnExactCutOk", fn := fun _ => fun
  | [d1, d2] => { results := [.lit (.bool false)], args := [d1, d2] }
  | _ => none }
def FnExactCutOkWrongFalsely : Prop := fnExactCutOkRow.holds Tryz.pinned (OpenSpec.ofChange fnExactCutOkWrong)

/-- 'laws.FnExactForth': WHATEVER THE INPUT: true; the input reads as it did. -/
def fnExactForthSpec : ChangeSpec := { name := "fnExactForth", fn := fun _ => fun
  | [d1, d2] => { results := [.lit (.bool true)], args := [d1, d2] }
  | _ => none }
def fnExactForthRow : OpenClaim := { program := "ytiejcppjjmmihaagreat", sum := "68e9270443157552f20d2f745b682b0090b93ab1d11ae3cdcf482b8abd5f50a8", func := "loop.example/g00196/laws.FnExactForth", spec := "fnExactForth", unfollowed := true, recurses := true, apart := false }
def FnExactForthSaid : Prop := fnExactForthRow.holds Tryz.pinned (OpenSpec.ofChange fnExactForthSpec)

/-- ITS FALSE NEIGHBOUR: 'it returns false'. Refute it at one input. -/
def fnExactForthWrong : ChangeSpec := { name := "fnExactForth", fn := fun _ => fun
  | [d1, d2] => { results := [.lit (.bool false)], args := [d1, d2] }
  | _ => none }
def FnExactForthWrongFalsely : Prop := fnExactForthRow.holds Tryz.pinned (OpenSpec.ofChange fnExactForthWrong)

/-- 'laws.FnExactSender': WHATEVER THE INPUT: true; the input reads as it did. -/
def fnExactSenderSpec : ChangeSpec := { name := "fnExactSender", fn := fun _ => fun
  | [d1, d2, d3] => { results := [.lit (.bool true)], args := [d1, d2, d3] }
  | _ => none }
def fnExactSenderRow : OpenClaim := { program := "ytiejcppjjmmihaagreat", sum := "68e9270443157552f20d2f745b682b0090b93ab1d11ae3cdcf482b8abd5f50a8", func := "loop.example/g00196/laws.FnExactSender", spec := "fnExactSender", unfollowed := true, recurses := true, apart := false }
def FnExactSenderSaid : Prop := fnExactSenderRow.holds Tryz.pinned (OpenSpec.ofChange fnExactSenderSpec)

/-- ITS FALSE NEIGHBOUR: 'it returns false'. Refute it at one input. -/
def fnExactSenderWrong : ChangeSpec := { name := "fnExactSender", fn := fun _ => fun
  | [d1, d2, d3] => { results := [.lit (.bool false)], args := [d1, d2, d3] }
  | _ => none }
def FnExactSenderWrongFalsely : Prop := fnExactSenderRow.holds Tryz.pinned (OpenSpec.ofChange fnExactSenderWrong)

/-- 'laws.FnExactWhole': WHATEVER THE INPUT: true; the input reads as it did. -/
def fnExactWholeSpec : ChangeSpec := { name := "fnExactWhole", fn := fun _ => fun
  | [d1, d2] => { results := [.lit (.bool true)], args := [d1, d2] }
  | _ => none }
def fnExactWholeRow : OpenClaim := { program := "ytiejcppjjmmihaagreat", sum := "68e9270443157552f20d2f745b682b0090b93ab1d11ae3cdcf482b8abd5f50a8", func := "loop.example/g00196/laws.FnExactWhole", spec := "fnExactWhole", unfollowed := true, recurses := true, apart := false }
def FnExactWholeSaid : Prop := fnExactWholeRow.holds Tryz.pinned (OpenSpec.ofChange fnExactWholeSpec)

/-- ITS FALSE NEIGHBOUR: 'it returns false'. Refute it at one input. -/
def fnExactWholeWrong : ChangeSpec := { name := "fnExactWhole", fn := fun _ => fun
  | [d1, d2] => { results := [.lit (.bool false)], args := [d1, d2] }
  | _ => none }
def FnExactWholeWrongFalsely : Prop := fnExactWholeRow.holds Tryz.pinned (OpenSpec.ofChange fnExactWholeWrong)

/-- 'laws.FnExactSysNew': WHATEVER THE INPUT: true; the input reads as it did. -/
def fnExactSysNewSpec : ChangeSpec := { name := "fnExactSysNew", fn := fun _ => fun
  | [d] => { results := [.lit (.bool true)], args := [d] }
  | _ => none }
def fnExactSysNewRow : OpenClaim := { program := "ytiejcppjjmmihaagreat", sum := "68e9270443157552f20d2f745b682b0090b93ab1d11ae3cdcf482b8abd5f50a8", func := "loop.example/g00196/laws.FnExactSysNew", spec := "fnExactSysNew", unfollowed := true, recurses := true, apart := false }
def FnExactSysNewSaid : Prop := fnExactSysNewRow.holds Tryz.pinned (OpenSpec.ofChange fnExactSysNewSpec)

/-- ITS FALSE NEIGHBOUR: 'it returns false'. Refute it at one input. -/
def fnExactSysNewWrong : ChangeSpec := { name := "fnExactSysNew", fn := fun _ => fun
  | [d] => { results := [.lit (.bool false)], args := [d] }
  | _ => none }
def FnExactSysNewWrongFalsely : Prop := fnExactSysNewRow.holds Tryz.pinned (OpenSpec.ofChange fnExactSysNewWrong)

/-- 'laws.FnExactFull': WHATEVER THE INPUT: true; the input reads as it did. -/
def fnExactFullSpec : ChangeSpec := { name := "fnExactFull", fn := fun _ => fun
  | [d] => { results := [.lit (.bool true)], args := [d] }
  | _ => none }
def fnExactFullRow : OpenClaim := { program := "ytiejcppjjmmihaagreat", sum := "68e9270443157552f20d2f745b682b0090b93ab1d11ae3cdcf482b8abd5f50a8", func := "loop.example/g00196/laws.FnExactFull", spec := "fnExactFull", unfollowed := true, recurses := true, apart := false }
def FnExactFullSaid : Prop := fnExactFullRow.holds Tryz.pinned (OpenSpec.ofChange fnExactFullSpec)

/-- ITS FALSE NEIGHBOUR: 'it returns false'. Refute it at one input. -/
def fnExactFullWrong : ChangeSpec := { name := "fnExactFull", fn := fun _ => fun
  | [d] => { results := [.lit (.bool false)], args := [d] }
  | _ => none }
def FnExactFullWrongFalsely : Prop := fnExactFullRow.holds Tryz.pinned (OpenSpec.ofChange fnExactFullWrong)

/-- 'laws.FnExactHangs': WHATEVER THE INPUT: true; the input reads as it did. -/
def fnExactHangsSpec : ChangeSpec := { name := "fnExactHangs", fn := fun _ => fun
  | [d1, d2, d3, d4, d5] => { results := [.lit (.bool true)], args := [d1, d2, d3, d4, d5] }
  | _ => none }
def fnExactHangsRow : OpenClaim := { program := "ytiejcppjjmmihaagreat", sum := "68e9270443157552f20d2f745b682b0090b93ab1d11ae3cdcf482b8abd5f50a8", func := "loop.example/g00196/laws.FnExactHangs", spec := "fnExactHangs", unfollowed := true, recurses := true, apart := false }
def FnExactHangsSaid : Prop := fnExactHangsRow.holds Tryz.pinned (OpenSpec.ofChange fnExactHangsSpec)

/-- ITS FALSE NEIGHBOUR: 'it returns false'. Refute it at one input. -/
def fnExactHangsWrong : ChangeSpec := { name := "fnExactHangs", fn := fun _ => fun
  | [d1, d2, d3, d4, d5] => { results := [.lit (.bool false)], args := [d1, d2, d3, d4, d5] }
  | _ => none }
def FnExactHangsWrongFalsely : Prop := fnExactHangsRow.holds Tryz.pinned (OpenSpec.ofChange fnExactHangsWrong)

/-- 'laws.FnExactSide': WHATEVER THE INPUT: true; the input reads as it did. -/
def fnExactSideSpec : ChangeSpec := { name := "fnExactSide", fn := fun _ => fun
  | [d1, d2, d3, d4, d5] => { results := [.lit (.bool true)], args := [d1, d2, d3, d4, d5] }
  | _ => none }
def fnExactSideRow : OpenClaim := { program := "ytiejcppjjmmihaagreat", sum := "68e9270443157552f20d2f745b682b0090b93ab1d11ae3cdcf482b8abd5f50a8", func := "loop.example/g00196/laws.FnExactSide", spec := "fnExactSide", unfollowed := true, recurses := true, apart := false }
def FnExactSideSaid : Prop := fnExactSideRow.holds Tryz.pinned (OpenSpec.ofChange fnExactSideSpec)

/-- ITS FALSE NEIGHBOUR: 'it returns false'. Refute it at one input. -/
def fnExactSideWrong : ChangeSpec := { name := "fnExactSide", fn := fun _ => fun
  | [d1, d2, d3, d4, d5] => { results := [.lit (.bool false)], args := [d1, d2, d3, d4, d5] }
  | _ => none }
def FnExactSideWrongFalsely : Prop := fnExactSideRow.holds Tryz.pinned (OpenSpec.ofChange fnExactSideWrong)

/-- 'laws.FnExactHalted': WHATEVER THE INPUT: true; the input reads as it did. -/
def fnExactHaltedSpec : ChangeSpec := { name := "fnExactHalted", fn := fun _ => fun
  | [d] => { results := [.lit (.bool true)], args := [d] }
  | _ => none }
def fnExactHaltedRow : OpenClaim := { program := "ytiejcppjjmmihaagreat", sum := "68e9270443157552f20d2f745b682b0090b93ab1d11ae3cdcf482b8abd5f50a8", func := "loop.example/g00196/laws.FnExactHalted", spec := "fnExactHalted", unfollowed := true, recurses := true, apart := false }
def FnExactHaltedSaid : Prop := fnExactHaltedRow.holds Tryz.pinned (OpenSpec.ofChange fnExactHaltedSpec)

/-- ITS FALSE NEIGHBOUR: 'it returns false'. Refute it at one input. -/
def fnExactHaltedWrong : ChangeSpec := { name := "fnExactHalted", fn := fun _ => fun
  | [d] => { results := [.lit (.bool false)], args := [d] }
  | _ => none }
def FnExactHaltedWrongFalsely : Prop := fnExactHaltedRow.holds Tryz.pinned (OpenSpec.ofChange fnExactHaltedWrong)

/-- 'laws.FnExactClose': WHATEVER THE INPUT: true; the input reads as it did. -/
def fnExactCloseSpec : ChangeSpec := { name := "fnExactClose", fn := fun _ => fun
  | [d1, d2] => { results := [.lit (.bool true)], args := [d1, d2] }
  | _ => none }
def fnExactCloseRow : OpenClaim := { program := "ytiejcppjjmmihaagreat", sum := "68e9270443157552f20d2f745b682b0090b93ab1d11ae3cdcf482b8abd5f50a8", func := "loop.example/g00196/laws.FnExactClose", spec := "fnExactClose", unfollowed := true, recurses := true, apart := false }
def FnExactCloseSaid : Prop := fnExactCloseRow.holds Tryz.pinned (OpenSpec.ofChange fnExactCloseSpec)

/-- ITS FALSE NEIGHBOUR: 'it returns false'. Refute it at one input. -/
def fnExactCloseWrong : ChangeSpec := { name := "fnExactClose", fn := fun _ => fun
  | [d1, d2] => { results := [.lit (.bool false)], args := [d1, d2] }
  | _ => none }
def FnExactCloseWrongFalsely : Prop := fnExactCloseRow.holds Tryz.pinned (OpenSpec.ofChange fnExactCloseWrong)

/-- 'laws.FnExactClock': WHATEVER THE INPUT: true; the input reads as it did. -/
def fnExactClockSpec : ChangeSpec := { name := "fnExactClock", fn := fun _ => fun
  | [d1, d2, d3] => { results := [.lit (.bool true)], args := [d1, d2, d3] }
  | _ => none }
def fnExactClockRow : OpenClaim := { program := "ytiejcppjjmmihaagreat", sum := "68e9270443157552f20d2f745b682b0090b93ab1d11ae3cdcf482b8abd5f50a8", func := "loop.example/g00196/laws.FnExactClock", spec := "fnExactClock", unfollowed := true, recurses := true, apart := false }
def FnExactClockSaid : Prop := fnExactClockRow.holds Tryz.pinned (OpenSpec.ofChange fnExactClockSpec)

/-- ITS FALSE NEIGHBOUR: 'it returns false'. Refute it at one input. -/
def fnExactClockWrong : ChangeSpec := { name := "fnExactClock", fn := fun _ => fun
  | [d1, d2, d3] => { results := [.lit (.bool false)], args := [d1, d2, d3] }
  | _ => none }
def FnExactClockWrongFalsely : Prop := fnExactClockRow.holds Tryz.pinned (OpenSpec.ofChange fnExactClockWrong)

/-- 'laws.FnExactReady': WHATEVER THE INPUT: true; the input reads as it did. -/
def fnExactReadySpec : ChangeSpec := { name := "fnExactReady", fn := fun _ => fun
  | [d1, d2] => { results := [.lit (.bool true)], args := [d1, d2] }
  | _ => none }
def fnExactReadyRow : OpenClaim := { program := "ytiejcppjjmmihaagreat", sum := "68e9270443157552f20d2f745b682b0090b93ab1d11ae3cdcf482b8abd5f50a8", func := "loop.example/g00196/laws.FnExactReady", spec := "fnExactReady", unfollowed := true, recurses := true, apart := false }
def FnExactReadySaid : Prop := fnExactReadyRow.holds Tryz.pinned (OpenSpec.ofChange fnExactReadySpec)

/-- ITS FALSE NEIGHBOUR: 'it returns false'. Refute it at one input. -/
def fnExactReadyWrong : ChangeSpec := { name := "fnExactReady", fn := fun _ => fun
  | [d1, d2] => { results := [.lit (.bool false)], args := [d1, d2] }
  | _ => none }
def FnExactReadyWrongFalsely : Prop := fnExactReadyRow.holds Tryz.pinned (OpenSpec.ofChange fnExactReadyWrong)

/-- 'laws.FnExactAt': WHATEVER THE INPUT: true; the input reads as it did. -/
def fnExactAtSpec : ChangeSpec := { name := "fnExactAt", fn := fun _ => fun
  | [d1, d2] => { results := [.lit (.bool true)], args := [d1, d2] }
  | _ => none }
def fnExactAtRow : OpenClaim := { program := "ytiejcppjjmmihaagreat", sum := "68e9270443157552f20d2f745b682b0090b93ab1d11ae3cdcf482b8abd5f50a8", func := "loop.example/g00196/laws.FnExactAt", spec := "fnExactAt", unfollowed := true, recurses := true, apart := false }
def FnExactAtSaid : Prop := fnExactAtRow.holds Tryz.pinned (OpenSpec.ofChange fnExactAtSpec)

/-- ITS FALSE NEIGHBOUR: 'it returns false'. Refute it at one input. -/
def fnExactAtWrong : ChangeSpec := { name := "fnExactAt", fn := fun _ => fun
  | [d1, d2] => { results := [.lit (.bool false)], args := [d1, d2] }
  | _ => none }
def FnExactAtWrongFalsely : Prop := fnExactAtRow.holds Tryz.pinned (OpenSpec.ofChange fnExactAtWrong)

/-- 'laws.FnExactStep': WHATEVER THE INPUT: true; the input reads as it did. -/
def fnExactStepSpec : ChangeSpec := { name := "fnExactStep", fn := fun _ => fun
  | [d1, d2, d3] => { results := [.lit (.bool true)], args := [d1, d2, d3] }
  | _ => none }
def fnExactStepRow : OpenClaim := { program := "ytiejcppjjmmihaagreat", sum := "68e9270443157552f20d2f745b682b0090b93ab1d11ae3cdcf482b8abd5f50a8", func := "loop.example/g00196/laws.FnExactStep", spec := "fnExactStep", unfollowed := true, recurses := true, apart := false }
def FnExactStepSaid : Prop := fnExactStepRow.holds Tryz.pinned (OpenSpec.ofChange fnExactStepSpec)

/-- ITS FALSE NEIGHBOUR: 'it returns false'. Refute it at one input. -/
def fnExactStepWrong : ChangeSpec := { name := "fnExactStep", fn := fun _ => fun
  | [d1, d2, d3] => { results := [.lit (.bool false)], args := [d1, d2, d3] }
  | _ => none }
def FnExactStepWrongFalsely : Prop := fnExactStepRow.holds Tryz.pinned (OpenSpec.ofChange fnExactStepWrong)

/-- 'laws.FnExactFair': WHATEVER THE INPUT: true; the input reads as it did. -/
def fnExactFairSpec : ChangeSpec := { name := "fnExactFair", fn := fun _ => fun
  | [d1, d2] => { results := [.lit (.bool true)], args := [d1, d2] }
  | _ => none }
def fnExactFairRow : OpenClaim := { program := "ytiejcppjjmmihaagreat", sum := "68e9270443157552f20d2f745b682b0090b93ab1d11ae3cdcf482b8abd5f50a8", func := "loop.example/g00196/laws.FnExactFair", spec := "fnExactFair", unfollowed := true, recurses := true, apart := false }
def FnExactFairSaid : Prop := fnExactFairRow.holds Tryz.pinned (OpenSpec.ofChange fnExactFairSpec)

/-- ITS FALSE NEIGHBOUR: 'it returns false'. Refute it at one input. -/
def fnExactFairWrong : ChangeSpec := { name := "fnExactFair", fn := fun _ => fun
  | [d1, d2] => { results := [.lit (.bool false)], args := [d1, d2] }
  | _ => none }
def FnExactFairWrongFalsely : Prop := fnExactFairRow.holds Tryz.pinned (OpenSpec.ofChange fnExactFairWrong)

/-- 'laws.FnExactRun': WHATEVER THE INPUT: true; the input reads as it did. -/
def fnExactRunSpec : ChangeSpec := { name := "fnExactRun", fn := fun _ => fun
  | [d1, d2] => { results := [.lit (.bool true)], args := [d1, d2] }
  | _ => none }
def fnExactRunRow : OpenClaim := { program := "ytiejcppjjmmihaagreat", sum := "68e9270443157552f20d2f745b682b0090b93ab1d11ae3cdcf482b8abd5f50a8", func := "loop.example/g00196/laws.FnExactRun", spec := "fnExactRun", unfollowed := true, recurses := true, apart := false }
def FnExactRunSaid : Prop := fnExactRunRow.holds Tryz.pinned (OpenSpec.ofChange fnExactRunSpec)

/-- ITS FALSE NEIGHBOUR: 'it returns false'. Refute it at one input. -/
def fnExactRunWrong : ChangeSpec := { name := "fnExactRun", fn := fun _ => fun
  | [d1, d2] => { results := [.lit (.bool false)], args := [d1, d2] }
  | _ => none }
def FnExactRunWrongFalsely : Prop := fnExactRunRow.holds Tryz.pinned (OpenSpec.ofChange fnExactRunWrong)

/- THE SECOND FORM. 'bulk': how many values and letters a reading holds, each counted each time it is reached (what is shared counts as often as it is met; a slice's spare places count too). A statement '..UptoSaid' is the law's where the arguments, and the package variables that the reading takes, are together of bulk at most 1048576: NARROWER than '..Said'. Prove '..Said' where nothing that the law and all that it calls make is longer than what came in: it says more and counts as full. Else prove '..UptoSaid'. A law counts once. -/
mutual
def uptoBulk {H : Type} : DataW H → Nat
  | .lit (.string bytes) => bytes.length + 1
  | .lit _ => 1
  | .nil => 1
  | .ptr d => uptoBulk d + 1
  | .slice elems spare => uptoBulkAll elems + uptoBulkAll spare + 1
  | .agg parts => uptoBulkAll parts + 1
  | .iface _ d => uptoBulk d + 1
  | .map entries => uptoBulkEntries entries + 1
  | .held _ => 1
def uptoBulkAll {H : Type} : List (DataW H) → Nat
  | [] => 0
  | d :: r => uptoBulk d + uptoBulkAll r
def uptoBulkEntries {H : Type} : List (Lit × DataW H) → Nat
  | [] => 0
  | x :: r => uptoBulkEntry x + uptoBulkEntries r
def uptoBulkEntry {H : Type} : Lit × DataW H → Nat
  | (.string bytes, d) => bytes.length + uptoBulk d + 1
  | (_, d) => uptoBulk d + 1
 end
def uptoSmall : (H : Type) → List (DataW H) → Bool := fun _ ds => decide (uptoBulkAll ds ≤ 1048576)
def OpenSpec.upto (s : _root_.Go.ChangeSpec) : _root_.Go.OpenSpec := { _root_.Go.OpenSpec.ofChange s with cond := some uptoSmall }

/-- 'laws.FnExactSysOk', WHERE WHAT IT READS IS OF BULK AT MOST 1048576: true; the input reads as it did. -/
def fnExactSysOkUptoRow : OpenClaim := { program := "ytiejcppjjmmihaagreat", sum := "68e9270443157552f20d2f745b682b0090b93ab1d11ae3cdcf482b8abd5f50a8", func := "loop.example/g00196/laws.FnExactSysOk", spec := "fnExactSysOk", unfollowed := true, recurses := true, apart := false, narrowed := true }
def FnExactSysOkUptoSaid : Prop := fnExactSysOkUptoRow.holds Tryz.pinned (OpenSpec.upto fnExactSysOkSpec)

/-- 'laws.FnExactCutOk', WHERE WHAT IT READS IS OF BULK AT MOST 1048576: true; the input reads as it did. -/
def fnExactCutOkUptoRow : OpenClaim := { program := "ytiejcppjjmmihaagreat", sum := "68e9270443157552f20d2f745b682b0090b93ab1d11ae3cdcf482b8abd5f50a8", func := "loop.example/g00196/laws.FnExactCutOk", spec := "fnExactCutOk", unfollowed := true, recurses := true, apart := false, narrowed := true }
def FnExactCutOkUptoSaid : Prop := fnExactCutOkUptoRow.holds Tryz.pinned (OpenSpec.upto fnExactCutOkSpec)

/-- 'laws.FnExactForth', WHERE WHAT IT READS IS OF BULK AT MOST 1048576: true; the input reads as it did. -/
def fnExactForthUptoRow : OpenClaim := { program := "ytiejcppjjmmihaagreat", sum := "68e9270443157552f20d2f745b682b0090b93ab1d11ae3cdcf482b8abd5f50a8", func := "loop.example/g00196/laws.FnExactForth", spec := "fnExactForth", unfollowed := true, recurses := true, apart := false, narrowed := true }
def FnExactForthUptoSaid : Prop := fnExactForthUptoRow.holds Tryz.pinned (OpenSpec.upto fnExactForthSpec)

/-- 'laws.FnExactSender', WHERE WHAT IT READS IS OF BULK AT MOST 1048576: true; the input reads as it did. -/
def fnExactSenderUptoRow : OpenClaim := { program := "ytiejcppjjmmihaagreat", sum := "68e9270443157552f20d2f745b682b0090b93ab1d11ae3cdcf482b8abd5f50a8", func := "loop.example/g00196/laws.FnExactSender", spec := "fnExactSender", unfollowed := true, recurses := true, apart := false, narrowed := true }
def FnExactSenderUptoSaid : Prop := fnExactSenderUptoRow.holds Tryz.pinned (OpenSpec.upto fnExactSenderSpec)

/-- 'laws.FnExactWhole', WHERE WHAT IT READS IS OF BULK AT MOST 1048576: true; the input reads as it did. -/
def fnExactWholeUptoRow : OpenClaim := { program := "ytiejcppjjmmihaagreat", sum := "68e9270443157552f20d2f745b682b0090b93ab1d11ae3cdcf482b8abd5f50a8", func := "loop.example/g00196/laws.FnExactWhole", spec := "fnExactWhole", unfollowed := true, recurses := true, apart := false, narrowed := true }
def FnExactWholeUptoSaid : Prop := fnExactWholeUptoRow.holds Tryz.pinned (OpenSpec.upto fnExactWholeSpec)

/-- 'laws.FnExactSysNew', WHERE WHAT IT READS IS OF BULK AT MOST 1048576: true; the input reads as it did. -/
def fnExactSysNewUptoRow : OpenClaim := { program := "ytiejcppjjmmihaagreat", sum := "68e9270443157552f20d2f745b682b0090b93ab1d11ae3cdcf482b8abd5f50a8", func := "loop.example/g00196/laws.FnExactSysNew", spec := "fnExactSysNew", unfollowed := true, recurses := true, apart := false, narrowed := true }
def FnExactSysNewUptoSaid : Prop := fnExactSysNewUptoRow.holds Tryz.pinned (OpenSpec.upto fnExactSysNewSpec)

/-- 'laws.FnExactFull', WHERE WHAT IT READS IS OF BULK AT MOST 1048576: true; the input reads as it did. -/
def fnExactFullUptoRow : OpenClaim := { program := "ytiejcppjjmmihaagreat", sum := "68e9270443157552f20d2f745b682b0090b93ab1d11ae3cdcf482b8abd5f50a8", func := "loop.example/g00196/laws.FnExactFull", spec := "fnExactFull", unfollowed := true, recurses := true, apart := false, narrowed := true }
def FnExactFullUptoSaid : Prop := fnExactFullUptoRow.holds Tryz.pinned (OpenSpec.upto fnExactFullSpec)

/-- 'laws.FnExactHangs', WHERE WHAT IT READS IS OF BULK AT MOST 1048576: true; the input reads as it did. -/
def fnExactHangsUptoRow : OpenClaim := { program := "ytiejcppjjmmihaagreat", sum := "68e9270443157552f20d2f745b682b0090b93ab1d11ae3cdcf482b8abd5f50a8", func := "loop.example/g00196/laws.FnExactHangs", spec := "fnExactHangs", unfollowed := true, recurses := true, apart := false, narrowed := true }
def FnExactHangsUptoSaid : Prop := fnExactHangsUptoRow.holds Tryz.pinned (OpenSpec.upto fnExactHangsSpec)

/-- 'laws.FnExactSide', WHERE WHAT IT READS IS OF BULK AT MOST 1048576: true; the input reads as it did. -/
def fnExactSideUptoRow : OpenClaim := { program := "ytiejcppjjmmihaagreat", sum := "68e9270443157552f20d2f745b682b0090b93ab1d11ae3cdcf482b8abd5f50a8", func := "loop.example/g00196/laws.FnExactSide", spec := "fnExactSide", unfollowed := true, recurses := true, apart := false, narrowed := true }
def FnExactSideUptoSaid : Prop := fnExactSideUptoRow.holds Tryz.pinned (OpenSpec.upto fnExactSideSpec)

/-- 'laws.FnExactHalted', WHERE WHAT IT READS IS OF BULK AT MOST 1048576: true; the input reads as it did. -/
def fnExactHaltedUptoRow : OpenClaim := { program := "ytiejcppjjmmihaagreat", sum := "68e9270443157552f20d2f745b682b0090b93ab1d11ae3cdcf482b8abd5f50a8", func := "loop.example/g00196/laws.FnExactHalted", spec := "fnExactHalted", unfollowed := true, recurses := true, apart := false, narrowed := true }
def FnExactHaltedUptoSaid : Prop := fnExactHaltedUptoRow.holds Tryz.pinned (OpenSpec.upto fnExactHaltedSpec)

/-- 'laws.FnExactClose', WHERE WHAT IT READS IS OF BULK AT MOST 1048576: true; the input reads as it did. -/
def fnExactCloseUptoRow : OpenClaim := { program := "ytiejcppjjmmihaagreat", sum := "68e9270443157552f20d2f745b682b0090b93ab1d11ae3cdcf482b8abd5f50a8", func := "loop.example/g00196/laws.FnExactClose", spec := "fnExactClose", unfollowed := true, recurses := true, apart := false, narrowed := true }
def FnExactCloseUptoSaid : Prop := fnExactCloseUptoRow.holds Tryz.pinned (OpenSpec.upto fnExactCloseSpec)

/-- 'laws.FnExactClock', WHERE WHAT IT READS IS OF BULK AT MOST 1048576: true; the input reads as it did. -/
def fnExactClockUptoRow : OpenClaim := { program := "ytiejcppjjmmihaagreat", sum := "68e9270443157552f20d2f745b682b0090b93ab1d11ae3cdcf482b8abd5f50a8", func := "loop.example/g00196/laws.FnExactClock", spec := "fnExactClock", unfollowed := true, recurses := true, apart := false, narrowed := true }
def FnExactClockUptoSaid : Prop := fnExactClockUptoRow.holds Tryz.pinned (OpenSpec.upto fnExactClockSpec)

/-- 'laws.FnExactReady', WHERE WHAT IT READS IS OF BULK AT MOST 1048576: true; the input reads as it did. -/
def fnExactReadyUptoRow : OpenClaim := { program := "ytiejcppjjmmihaagreat", sum := "68e9270443157552f20d2f745b682b0090b93ab1d11ae3cdcf482b8abd5f50a8", func := "loop.example/g00196/laws.FnExactReady", spec := "fnExactReady", unfollowed := true, recurses := true, apart := false, narrowed := true }
def FnExactReadyUptoSaid : Prop := fnExactReadyUptoRow.holds Tryz.pinned (OpenSpec.upto fnExactReadySpec)

/-- 'laws.FnExactAt', WHERE WHAT IT READS IS OF BULK AT MOST 1048576: true; the input reads as it did. -/
def fnExactAtUptoRow : OpenClaim := { program := "ytiejcppjjmmihaagreat", sum := "68e9270443157552f20d2f745b682b0090b93ab1d11ae3cdcf482b8abd5f50a8", func := "loop.example/g00196/laws.FnExactAt", spec := "fnExactAt", unfollowed := true, recurses := true, apart := false, narrowed := true }
def FnExactAtUptoSaid : Prop := fnExactAtUptoRow.holds Tryz.pinned (OpenSpec.upto fnExactAtSpec)

/-- 'laws.FnExactStep', WHERE WHAT IT READS IS OF BULK AT MOST 1048576: true; the input reads as it did. -/
def fnExactStepUptoRow : OpenClaim := { program := "ytiejcppjjmmihaagreat", sum := "68e9270443157552f20d2f745b682b0090b93ab1d11ae3cdcf482b8abd5f50a8", func := "loop.example/g00196/laws.FnExactStep", spec := "fnExactStep", unfollowed := true, recurses := true, apart := false, narrowed := true }
def FnExactStepUptoSaid : Prop := fnExactStepUptoRow.holds Tryz.pinned (OpenSpec.upto fnExactStepSpec)

/-- 'laws.FnExactFair', WHERE WHAT IT READS IS OF BULK AT MOST 1048576: true; the input reads as it did. -/
def fnExactFairUptoRow : OpenClaim := { program := "ytiejcppjjmmihaagreat", sum := "68e9270443157552f20d2f745b682b0090b93ab1d11ae3cdcf482b8abd5f50a8", func := "loop.example/g00196/laws.FnExactFair", spec := "fnExactFair", unfollowed := true, recurses := true, apart := false, narrowed := true }
def FnExactFairUptoSaid : Prop := fnExactFairUptoRow.holds Tryz.pinned (OpenSpec.upto fnExactFairSpec)

/-- 'laws.FnExactRun', WHERE WHAT IT READS IS OF BULK AT MOST 1048576: true; the input reads as it did. -/
def fnExactRunUptoRow : OpenClaim := { program := "ytiejcppjjmmihaagreat", sum := "68e9270443157552f20d2f745b682b0090b93ab1d11ae3cdcf482b8abd5f50a8", func := "loop.example/g00196/laws.FnExactRun", spec := "fnExactRun", unfollowed := true, recurses := true, apart := false, narrowed := true }
def FnExactRunUptoSaid : Prop := fnExactRunUptoRow.holds Tryz.pinned (OpenSpec.upto fnExactRunSpec)

end Rows
end Go.Proofs.YtiejcppjjmmihaaGreat

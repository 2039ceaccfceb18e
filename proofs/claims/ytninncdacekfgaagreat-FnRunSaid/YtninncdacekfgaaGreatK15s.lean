/- Forth: reckoned; its law. -/
import Derived.Test.YtninncdacekfgaaGreatK14s
set_option linter.unusedSimpArgs false
set_option linter.unusedVariables false
set_option maxRecDepth 100000
set_option maxHeartbeats 40000000
namespace Go.Proofs.YtninncdacekfgaaGreat.VM
open Go Go.Proofs
noncomputable instance decEv : DecidableEq Ev := fun a b => Classical.propDecidable _
noncomputable instance decIns : DecidableEq Ins := fun a b => Classical.propDecidable _
def evE (a b : Ev) : Bool := evB a.kind a.peer a.v b.kind b.peer b.v
theorem evE_iff {a b : Ev} : evE a b = true ↔ a = b := by
 obtain ⟨a1, a2, a3⟩ := a
 obtain ⟨b1, b2, b3⟩ := b
 simp [evE, evB]
end Go.Proofs.YtninncdacekfgaaGreat.VM
namespace Go.Proofs.YtninncdacekfgaaGreat.VM
open Go Go.Proofs
def sysO4 (s : Sy) : List (Nat × Obj) := [(4, ⟨.ro, 100, s.progs.map (rIns 105)⟩), (5, ⟨.ro, 71, stT s.states⟩), (6, ⟨.ro, 97, s.ways.map (rItem 99)⟩), (7, ⟨.ro, 68, s.hist.map (rEvent 96)⟩)]
def sysX4 (s : Sy) : Obj := ⟨.box, 29, [.l 4 [] 0 s.progs.length, .l 5 [] 0 s.states.length, .l 6 [] 0 s.ways.length, .l 7 [] 0 s.hist.length]⟩
def foO (s o : Sy) : List (Nat × Obj) := sysO s ++ (sysO4 o ++ [(192, sysX s), (256, sysX4 o)])
end Go.Proofs.YtninncdacekfgaaGreat.VM

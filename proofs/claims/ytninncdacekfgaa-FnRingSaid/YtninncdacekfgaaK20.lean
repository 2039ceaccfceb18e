/- The law FnExactStep: reckoned. -/
import Derived.Test.YtninncdacekfgaaK16
import Derived.Test.YtninncdacekfgaaK18
import Derived.Test.YtninncdacekfgaaK19
/- Systems copied by the specification: reckoned. -/
namespace Go.Proofs.Ytninncdacekfgaa.VM
open Go Go.Proofs
set_option linter.unusedSimpArgs false
set_option linter.unusedVariables false
set_option maxRecDepth 100000
set_option maxHeartbeats 40000000
theorem r13 : List.range 13 = [0, 1, 2, 3, 4, 5, 6, 7, 8, 9, 10, 11, 12] := rfl
def H_cp1 (s : Sy) (i : Nat) : St := ⟨[(1, .ptr 128 [] 0), (2, .ptr 192 [] 0), (3, .ptr 256 [] 0), (4, .c (.v (.int .i64 i)))], sysO s ++ ([(128, sysX s), (192, zBox), (256, ⟨.box, 45, [.l 576 [] 0 s.progs.length, lkZ 1920 i, .z, .l 768 [] 0 s.hist.length]⟩), (576, ⟨.own, 24, s.progs.map (sIns 40)⟩), (768, ⟨.own, 54, s.hist.map (sEvent 29)⟩)] ++ obZ 1920 i ⟨.own, 27, ssT (s.states.take i)⟩)⟩
def H_cp2 (s : Sy) (sn i : Nat) : St := ⟨[(1, .ptr 128 [] 0), (2, .ptr 192 [] 0), (3, .ptr 256 [] 0), (5, .c (.v (.int .i64 i)))], sysO s ++ ([(128, sysX s), (192, zBox), (256, ⟨.box, 45, [.l 576 [] 0 s.progs.length, lkZ 1920 sn, lkZ 3136 i, .l 768 [] 0 s.hist.length]⟩), (576, ⟨.own, 24, s.progs.map (sIns 40)⟩), (768, ⟨.own, 54, s.hist.map (sEvent 29)⟩)] ++ (obZ 1920 sn ⟨.own, 27, ssT s.states⟩ ++ obZ 3136 i ⟨.own, 92, (s.ways.take i).map (sItem 100)⟩))⟩
end Go.Proofs.Ytninncdacekfgaa.VM

/- The law FnExactStep, reckoned. -/
namespace Go.Proofs.Ytninncdacekfgaa.VM
open Go Go.Proofs
set_option linter.unusedSimpArgs false
set_option linter.unusedVariables false
set_option maxRecDepth 100000
set_option maxHeartbeats 40000000
noncomputable def stepR (s : Sy) (p peer : Int) : Sy × Int := if sysB s = true then stepF s p peer else (zSy, 1)
theorem zSy_small : Small zSy := by refine ⟨?_, ?_, ?_, ?_, ?_, ?_, ?_, ?_⟩ <;> simp [zSy, tot]
theorem stepR_small (s : Sy) (p peer : Int) : Small (stepR s p peer).1 := by
 unfold stepR
 split
 ·rename_i h
  exact (step_right (right_iff.1 h) p peer).small
 ·exact zSy_small
end Go.Proofs.Ytninncdacekfgaa.VM

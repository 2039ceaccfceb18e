/- Draws of programs for a new system; the law FnNew. -/
import Derived.Test.YtninncdacekfgaaK16
import Derived.Test.YtninncdacekfgaaK24d
import Derived.Test.YtninncdacekfgaaK25d
import Derived.Test.YtninncdacekfgaaK26d
set_option linter.unusedSimpArgs false
set_option linter.unusedVariables false
set_option maxRecDepth 100000
set_option maxHeartbeats 40000000
namespace Go.Proofs.Ytninncdacekfgaa.VM
open Go Go.Proofs
end Go.Proofs.Ytninncdacekfgaa.VM
namespace Go.Proofs.Ytninncdacekfgaa.VM
open Go Go.Proofs
theorem run_sameSt {j : Nat} (hj : big ≤ j) (s : Sta) (h1 : s.regs.length ≤ 1048576) (h2 : s.out.length ≤ 1048576) : M.run (j + 2) 11 [.agg (tSta s), .agg (tSta s)] = some ([.c (.v (.bool true))], [.agg (tSta s), .agg (tSta s)]) := by
 have e1 := run_sameInts hj s.regs h1
 have e2 := run_sameInts hj s.out h2
 rw [m_run (fn := Try.f11) (i0 := 0) rfl Try.func11 rfl rfl (by simp [tSta, stR])]
 simp -implicitDefEqProofs [tSta, stR, own1, e1, e2]
end Go.Proofs.Ytninncdacekfgaa.VM

/- The program's steps: reckoned. -/
import Derived.Test.YtninncdacekfgaaGreatK16s
import Derived.Test.YtninncdacekfgaaGreatV3d
import Derived.Test.YtninncdacekfgaaGreatFxd
import Derived.Test.YtninncdacekfgaaGreatMkd
import Derived.Test.YtninncdacekfgaaGreatTabd
import Derived.Test.YtninncdacekfgaaGreatK0d
import Derived.Test.YtninncdacekfgaaGreatK2d
import Derived.Test.YtninncdacekfgaaGreatK4d
import Derived.Test.YtninncdacekfgaaGreatK5d
import Derived.Test.YtninncdacekfgaaGreatK6d
import Derived.Test.YtninncdacekfgaaGreatK7d
import Derived.Test.YtninncdacekfgaaGreatK13d
import Derived.Test.YtninncdacekfgaaGreatK16d
import Derived.Test.YtninncdacekfgaaGreatK17d
import Derived.Test.YtninncdacekfgaaGreatK18d
set_option linter.unusedSimpArgs false
set_option linter.unusedVariables false
set_option maxRecDepth 100000
set_option maxHeartbeats 40000000
namespace Go.Proofs.YtninncdacekfgaaGreat.VM
open Go Go.Proofs
structure Full (s : Sy) : Prop where
 progs : 0 < s.progs.length
 states : 0 < s.states.length
 ways : 0 < s.ways.length
 hist : 0 < s.hist.length
end Go.Proofs.YtninncdacekfgaaGreat.VM
namespace Go.Proofs.YtninncdacekfgaaGreat.VM
open Go Go.Proofs
theorem Right.full {s : Sy} (R : Right s) : Full s := by
 have n1 := R.n1
 have : 0 < s.progs.length * s.progs.length := Nat.mul_pos (by omega) (by omega)
 exact ⟨by omega, by rw [R.st]; omega, by rw [R.wa]; omega, by rw [R.hi]; omega⟩
end Go.Proofs.YtninncdacekfgaaGreat.VM

/- Ready, Halted: reckoned; their laws. -/
import Derived.Test.YtninncdacekfgaaGreatK17s
import Derived.Test.YtninncdacekfgaaGreatV3d
import Derived.Test.YtninncdacekfgaaGreatFxd
import Derived.Test.YtninncdacekfgaaGreatMkd
import Derived.Test.YtninncdacekfgaaGreatTabd
import Derived.Test.YtninncdacekfgaaGreatK0d
import Derived.Test.YtninncdacekfgaaGreatK2d
import Derived.Test.YtninncdacekfgaaGreatK4d
import Derived.Test.YtninncdacekfgaaGreatK5d
import Derived.Test.YtninncdacekfgaaGreatK6d
import Derived.Test.YtninncdacekfgaaGreatK7d
import Derived.Test.YtninncdacekfgaaGreatK13d
import Derived.Test.YtninncdacekfgaaGreatK16d
import Derived.Test.YtninncdacekfgaaGreatK17d
import Derived.Test.YtninncdacekfgaaGreatK18d
import Derived.Test.YtninncdacekfgaaGreatK19d
import Derived.Test.YtninncdacekfgaaGreatK20d
set_option linter.unusedSimpArgs false
set_option linter.unusedVariables false
set_option maxRecDepth 100000
set_option maxHeartbeats 40000000
namespace Go.Proofs.YtninncdacekfgaaGreat.VM
open Go Go.Proofs
def insAtN (s : Sy) (m : Nat) : Ins := insAt (progOf s m) (stOf s m).at_
def upN (s : Sy) (m : Nat) : Nat := if (insAtN s m).op = 7 ∧ (insAtN s m).n = 9 then s.progs.length - 1 else 0
def rdy (s : Sy) (m : Nat) : Nat → List Int
 | 0 => []
 | k + 1 => if (comeF s m k).2 = 0 then rdy s m k ++ [(k : Int)] else rdy s m k
def readyF (s : Sy) (p : Int) : List Int := if inB p 0 ((s.progs.length : Int) - 1) = false then [] else rdy s p.toNat (upN s p.toNat + 1)
end Go.Proofs.YtninncdacekfgaaGreat.VM
namespace Go.Proofs.YtninncdacekfgaaGreat.VM
open Go Go.Proofs
end Go.Proofs.YtninncdacekfgaaGreat.VM
namespace Go.Proofs.YtninncdacekfgaaGreat.VM
open Go Go.Proofs
end Go.Proofs.YtninncdacekfgaaGreat.VM

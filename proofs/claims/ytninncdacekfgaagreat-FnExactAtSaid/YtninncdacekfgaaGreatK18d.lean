/- What is ready; systems copied; steps of none: reckoned. -/
import Derived.Test.YtninncdacekfgaaGreatK17s
import Derived.Test.YtninncdacekfgaaGreatK53s
import Derived.Test.YtninncdacekfgaaGreatV3d
import Derived.Test.YtninncdacekfgaaGreatFxd
import Derived.Test.YtninncdacekfgaaGreatMkd
import Derived.Test.YtninncdacekfgaaGreatTabd
import Derived.Test.YtninncdacekfgaaGreatK0d
import Derived.Test.YtninncdacekfgaaGreatK2d
import Derived.Test.YtninncdacekfgaaGreatK4d
import Derived.Test.YtninncdacekfgaaGreatK5d
import Derived.Test.YtninncdacekfgaaGreatK6d
import Derived.Test.YtninncdacekfgaaGreatK7d
import Derived.Test.YtninncdacekfgaaGreatK13d
import Derived.Test.YtninncdacekfgaaGreatK16d
import Derived.Test.YtninncdacekfgaaGreatK17d
set_option linter.unusedSimpArgs false
set_option linter.unusedVariables false
set_option maxRecDepth 100000
set_option maxHeartbeats 40000000
namespace Go.Proofs.YtninncdacekfgaaGreat.VM
open Go Go.Proofs
theorem sEvent_at {l : List (List Ev)} {e : TypeId} {m : Nat} (hm : m < l.length) : (l.map (sEvent e))[m]? = some (.s e l[m].length (evT l[m])) := by
 rw [List.getElem?_map, List.getElem?_eq_getElem hm]
 rfl
end Go.Proofs.YtninncdacekfgaaGreat.VM
namespace Go.Proofs.YtninncdacekfgaaGreat.VM
open Go Go.Proofs
end Go.Proofs.YtninncdacekfgaaGreat.VM

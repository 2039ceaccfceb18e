/- Do of the program: reckoned. -/
import Derived.Test.YtninncdacekfgaaGreatK4s
import Derived.Test.YtninncdacekfgaaGreatK5s
import Derived.Test.YtninncdacekfgaaGreatV3d
import Derived.Test.YtninncdacekfgaaGreatFxd
import Derived.Test.YtninncdacekfgaaGreatMkd
import Derived.Test.YtninncdacekfgaaGreatTabd
import Derived.Test.YtninncdacekfgaaGreatK0d
import Derived.Test.YtninncdacekfgaaGreatK2d
import Derived.Test.YtninncdacekfgaaGreatK4d
set_option linter.unusedSimpArgs false
set_option linter.unusedVariables false
set_option maxRecDepth 100000
set_option maxHeartbeats 40000000
namespace Go.Proofs.YtninncdacekfgaaGreat.VM
open Go Go.Proofs
end Go.Proofs.YtninncdacekfgaaGreat.VM
namespace Go.Proofs.YtninncdacekfgaaGreat.VM
open Go Go.Proofs
theorem evT_rep (n : Nat) : (List.replicate n [T.v (Value.int IntKind.i64 0), T.v (Value.int IntKind.i64 0), T.v (Value.int IntKind.i64 0)]).flatten = evT (List.replicate n ⟨0, 0, 0⟩) := fm_rep (tr := tEv) n ⟨0, 0, 0⟩
theorem evT_set {l : List Ev} {i : Nat} (hi : i < l.length) (x : Ev) : ((((evT l).set (i * 3) (.v (.int .i64 x.kind))).set (i * 3 + 1) (.v (.int .i64 x.peer))).set (i * 3 + 1 + 1) (.v (.int .i64 x.v))) = evT (l.set i x) := by
 exact fm_set tEv_len hi x
theorem itT_rep (n : Nat) : (List.replicate n [T.v (Value.bool false), T.v (Value.int IntKind.i64 0)]).flatten = itT (List.replicate n ⟨false, 0⟩) := fm_rep (tr := tItem) n ⟨false, 0⟩
theorem itT_set {l : List Itm} {i : Nat} (hi : i < l.length) (x : Itm) : ((itT l).set (i * 2) (.v (.bool x.mark))).set (i * 2 + 1) (.v (.int .i64 x.v)) = itT (l.set i x) := by
 exact fm_set tItem_len hi x
end Go.Proofs.YtninncdacekfgaaGreat.VM

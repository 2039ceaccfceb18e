/- Clocks: the plain law. -/
import Derived.Test.YtninncdacekfgaaGreatK14s
import Derived.Test.YtninncdacekfgaaGreatK17s
import Derived.Test.YtninncdacekfgaaGreatK29s
import Derived.Test.YtninncdacekfgaaGreatV3d
import Derived.Test.YtninncdacekfgaaGreatFxd
import Derived.Test.YtninncdacekfgaaGreatMkd
import Derived.Test.YtninncdacekfgaaGreatTabd
import Derived.Test.YtninncdacekfgaaGreatK0d
import Derived.Test.YtninncdacekfgaaGreatK2d
import Derived.Test.YtninncdacekfgaaGreatK4d
import Derived.Test.YtninncdacekfgaaGreatK5d
import Derived.Test.YtninncdacekfgaaGreatK6d
import Derived.Test.YtninncdacekfgaaGreatK7d
import Derived.Test.YtninncdacekfgaaGreatK13d
import Derived.Test.YtninncdacekfgaaGreatK16d
import Derived.Test.YtninncdacekfgaaGreatK17d
import Derived.Test.YtninncdacekfgaaGreatK18d
import Derived.Test.YtninncdacekfgaaGreatK19d
import Derived.Test.YtninncdacekfgaaGreatK20d
import Derived.Test.YtninncdacekfgaaGreatK21d
import Derived.Test.YtninncdacekfgaaGreatK23d
import Derived.Test.YtninncdacekfgaaGreatK24d
import Derived.Test.YtninncdacekfgaaGreatK25d
set_option linter.unusedSimpArgs false
set_option linter.unusedVariables false
namespace Go.Proofs.YtninncdacekfgaaGreat.VM
open Go Go.Proofs
theorem nth_lt {es : List Ev} {k p : Int} {n c : Nat} (hc : c ≤ es.length) (h : n < cntE (es.take c) k p) : nthN es k p n < c := by
 have h1 := (nth_has (es := es.take c) (k := k) (p := p) (n := n)).2 h
 rw [nth_take hc, List.length_take] at h1
 omega
theorem nthF_of {es : List Ev} {k p : Int} {n : Nat} (h : nthN es k p n < es.length) : nthF es k p n = nthN es k p n := by
 unfold nthF
 rw [if_neg (by omega)]
end Go.Proofs.YtninncdacekfgaaGreat.VM

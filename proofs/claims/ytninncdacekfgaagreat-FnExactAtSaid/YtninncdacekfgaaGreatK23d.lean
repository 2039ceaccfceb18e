/- Fair rounds: reckoned; the law FnExactFair. -/
import Derived.Test.YtninncdacekfgaaGreatV3d
import Derived.Test.YtninncdacekfgaaGreatFxd
import Derived.Test.YtninncdacekfgaaGreatMkd
import Derived.Test.YtninncdacekfgaaGreatTabd
import Derived.Test.YtninncdacekfgaaGreatK0d
import Derived.Test.YtninncdacekfgaaGreatK2d
import Derived.Test.YtninncdacekfgaaGreatK4d
import Derived.Test.YtninncdacekfgaaGreatK5d
import Derived.Test.YtninncdacekfgaaGreatK6d
import Derived.Test.YtninncdacekfgaaGreatK7d
import Derived.Test.YtninncdacekfgaaGreatK13d
import Derived.Test.YtninncdacekfgaaGreatK16d
import Derived.Test.YtninncdacekfgaaGreatK17d
import Derived.Test.YtninncdacekfgaaGreatK18d
import Derived.Test.YtninncdacekfgaaGreatK19d
import Derived.Test.YtninncdacekfgaaGreatK20d
import Derived.Test.YtninncdacekfgaaGreatK21d
set_option linter.unusedSimpArgs false
set_option linter.unusedVariables false
set_option maxRecDepth 100000
set_option maxHeartbeats 40000000
namespace Go.Proofs.YtninncdacekfgaaGreat.VM
open Go Go.Proofs
def fairP (x : Sy × Int) (p : Nat) : Sy × Int := if (readyF x.1 p).length = 0 then x else ((stepF x.1 p ((readyF x.1 p).headD 0)).1, x.2 + 1)
theorem stepF_progs (s : Sy) (p q : Int) : (stepF s p q).1.progs = s.progs := by
 unfold stepF
 split <;> rfl
structure FairOk (s : Sy) (n : Int) (x : Sy × Int) : Prop where
 r : Right x.1
 p : x.1.progs = s.progs
 lo : 0 ≤ x.2
 hi : x.2 ≤ n
theorem FairOk.step {s : Sy} {n : Int} {x : Sy × Int} (h : FairOk s n x) (p : Nat) : FairOk s (n + 1) (fairP x p) := by
 unfold fairP
 split
 ·exact ⟨h.r, h.p, h.lo, by have := h.hi; omega⟩
 ·exact ⟨step_right h.r _ _, (stepF_progs _ _ _).trans h.p, by have := h.lo; show 0 ≤ x.2 + 1; omega, by have := h.hi; show x.2 + 1 ≤ n + 1; omega⟩
end Go.Proofs.YtninncdacekfgaaGreat.VM
namespace Go.Proofs.YtninncdacekfgaaGreat.VM
open Go Go.Proofs
end Go.Proofs.YtninncdacekfgaaGreat.VM

/- Clocks: the plain law. -/
import Derived.Test.YtninncdacekfgaaGreatK14s
import Derived.Test.YtninncdacekfgaaGreatK17s
set_option linter.unusedSimpArgs false
set_option linter.unusedVariables false
namespace Go.Proofs.YtninncdacekfgaaGreat.VM
open Go Go.Proofs
def peerN (h : List (List Ev)) (p i : Nat) : Nat := (evAt (rowH h p) i).peer.toNat
def clkN (h : List (List Ev)) : Nat → Nat → Nat → Nat → Nat
 | 0, _, _, _ => 0
 | f + 1, p, i, q => if q = p then i + 1 else max (if 0 < i then clkN h f p (i - 1) q else 0) (if 0 ≤ senderF h p i then clkN h f (peerN h p i) (senderF h p i).toNat q else 0)
def clk (h : List (List Ev)) (p i q : Nat) : Nat := clkN h (allE h) p i q
end Go.Proofs.YtninncdacekfgaaGreat.VM

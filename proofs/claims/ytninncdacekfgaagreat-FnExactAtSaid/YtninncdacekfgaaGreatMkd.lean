/- A machine over this program: its tables, and that they are right. -/
import Derived.Test.YtninncdacekfgaaGreatFxs
import Derived.Test.YtninncdacekfgaaGreatMks
import Derived.Test.YtninncdacekfgaaGreatV3d
import Derived.Test.YtninncdacekfgaaGreatFxd
set_option linter.unusedVariables false
set_option maxRecDepth 100000
namespace Go.Proofs.YtninncdacekfgaaGreat.VM
open Go Go.Proofs
theorem upto_succ (k : Int) (n : Nat) : upto k (n + 1) = upto k n ++ [k + n] := by simp [upto, List.range_succ]
section
variable {α : Type} {tr : α → List T} {k : Nat}
theorem fm_rep (n : Nat) (x : α) : (List.replicate n (tr x)).flatten = (List.replicate n x).flatMap tr := by rw [List.flatMap_def, List.map_replicate]
end
section
variable {α : Type} (xs : List α) (z : α)
end
end Go.Proofs.YtninncdacekfgaaGreat.VM

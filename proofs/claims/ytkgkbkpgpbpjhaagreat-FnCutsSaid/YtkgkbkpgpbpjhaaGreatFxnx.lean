/- What the machine asks of the types and functions of the program. -/
import Derived.Test.YtkgkbkpgpbpjhaaGreatV3g
import Derived.Test.YtkgkbkpgpbpjhaaGreatProg
import Derived.KernelRfl
import Derived.Test.YtkgkbkpgpbpjhaaGreatFxg
set_option linter.unusedVariables false
set_option maxRecDepth 100000
namespace Go.Proofs.YtkgkbkpgpbpjhaaGreat.VM
open Go Go.Proofs
@[simp] theorem nt8 : Tryz.f8.ntmps = 125 := (rfl)
@[simp] theorem rs8 : Tryz.f8.results.toList = [.tmp 2] := (rfl)
@[simp] theorem rt8 : Tryz.f8.resultTypes.toList = [4] := (rfl)
end Go.Proofs.YtkgkbkpgpbpjhaaGreat.VM

/- Tables of the machine: which arguments are the function's own; what is kept at a loop's head. -/
import Derived.Test.YtkgkbkpgpbpjhaaGreatMkg
import Derived.Test.YtkgkbkpgpbpjhaaGreatTabg
import Derived.Test.YtkgkbkpgpbpjhaaGreatFxnx
set_option linter.unusedVariables false
namespace Go.Proofs.YtkgkbkpgpbpjhaaGreat.VM
open Go
@[simp] theorem h0_8_a (r : Nat) : hint0 8 r = ([3,4,8,9,10,11],[256,1216,1217,1218,1219,1220,5056,5696,5760]) := rfl
end Go.Proofs.YtkgkbkpgpbpjhaaGreat.VM

/- Forth: reckoned; its law. -/
import Derived.Test.YtkgkbkpgpbpjhaaGreatK14g
set_option linter.unusedSimpArgs false
set_option linter.unusedVariables false
set_option maxRecDepth 100000
set_option maxHeartbeats 40000000
namespace Go.Proofs.YtkgkbkpgpbpjhaaGreat.VM
open Go Go.Proofs
noncomputable instance decEv : DecidableEq Ev := fun a b => Classical.propDecidable _
noncomputable instance decIns : DecidableEq Ins := fun a b => Classical.propDecidable _
end Go.Proofs.YtkgkbkpgpbpjhaaGreat.VM
namespace Go.Proofs.YtkgkbkpgpbpjhaaGreat.VM
open Go Go.Proofs
end Go.Proofs.YtkgkbkpgpbpjhaaGreat.VM

/- Rows of events and items. -/
import Derived.Test.YtkgkbkpgpbpjhaaGreatK5g
import Derived.Test.YtkgkbkpgpbpjhaaGreatK2g
import Derived.Test.YtkgkbkpgpbpjhaaGreatK4g
import Derived.Test.YtkgkbkpgpbpjhaaGreatK6g
import Derived.Test.YtkgkbkpgpbpjhaaGreatFxk
import Derived.Test.YtkgkbkpgpbpjhaaGreatTabk
set_option linter.unusedSimpArgs false
set_option linter.unusedVariables false
set_option maxRecDepth 100000
set_option maxHeartbeats 40000000
namespace Go.Proofs.YtkgkbkpgpbpjhaaGreat.VM
open Go Go.Proofs
theorem goF_len (n : Nat) (s : Sta) (k : Int) : (goF n s k).regs.length = s.regs.length ∧ (goF n s k).out.length = s.out.length := by
 unfold goF
 split <;> exact ⟨rfl, rfl⟩
theorem didF_len (x : Ins) (n : Nat) (s : Sta) (v : Int) : (didF x n s v).regs.length = s.regs.length ∧ (didF x n s v).out.length ≤ s.out.length + 1 := by
 unfold didF
 (repeat' split) <;> simp [goF_len]
end Go.Proofs.YtkgkbkpgpbpjhaaGreat.VM
namespace Go.Proofs.YtkgkbkpgpbpjhaaGreat.VM
open Go Go.Proofs
end Go.Proofs.YtkgkbkpgpbpjhaaGreat.VM
namespace Go.Proofs.YtkgkbkpgpbpjhaaGreat.VM
open Go Go.Proofs
end Go.Proofs.YtkgkbkpgpbpjhaaGreat.VM
namespace Go.Proofs.YtkgkbkpgpbpjhaaGreat.VM
open Go Go.Proofs
end Go.Proofs.YtkgkbkpgpbpjhaaGreat.VM

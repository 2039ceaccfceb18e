/- The program's steps: reckoned. -/
import Derived.Test.YtkgkbkpgpbpjhaaGreatK16g
import Derived.Test.YtkgkbkpgpbpjhaaGreatK18g
set_option linter.unusedSimpArgs false
set_option linter.unusedVariables false
set_option maxRecDepth 100000
set_option maxHeartbeats 40000000
namespace Go.Proofs.YtkgkbkpgpbpjhaaGreat.VM
open Go Go.Proofs
structure Full (s : Sy) : Prop where
 progs : 0 < s.progs.length
 states : 0 < s.states.length
 ways : 0 < s.ways.length
 hist : 0 < s.hist.length
end Go.Proofs.YtkgkbkpgpbpjhaaGreat.VM
namespace Go.Proofs.YtkgkbkpgpbpjhaaGreat.VM
open Go Go.Proofs
theorem Right.full {s : Sy} (R : Right s) : Full s := by
 have n1 := R.n1
 have : 0 < s.progs.length * s.progs.length := Nat.mul_pos (by omega) (by omega)
 exact ⟨by omega, by rw [R.st]; omega, by rw [R.wa]; omega, by rw [R.hi]; omega⟩
end Go.Proofs.YtkgkbkpgpbpjhaaGreat.VM

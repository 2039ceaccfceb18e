/- The machine's answer to FnExactStateOk. -/
import Derived.Test.YtkfdfjjcjcadgaaFn5
import Derived.Test.YtkfdfjjcjcadgaaOp
namespace Go.Proofs.Ytkfdfjjcjcadgaa.VM
open Go Go.Proofs
set_option linter.unusedVariables false
theorem law_FnExactStateOk (l : List Ins) (s : Sta) (hl : (∀ x ∈ l, insOk x) ∧ l.length ≤ maxLen) (hs : staOk s) : ∃ k xs, M.run k 10 [.c (.r 39 l.length (insT l)), .agg (tSta s)] = some ([.c (.v (.bool true))], xs) :=
  ⟨big + 8, _, run10 (Nat.le_refl _) l s.at_ s.code s.regs s.out hl.2 hs.2.1.2 hs.2.2.1.2⟩
end Go.Proofs.Ytkfdfjjcjcadgaa.VM

/- The machine's answer to FnExactNext. -/
import Derived.Test.YtkfdfjjcjcadgaaFn9
import Derived.Test.YtkfdfjjcjcadgaaOp
namespace Go.Proofs.Ytkfdfjjcjcadgaa.VM
open Go Go.Proofs
set_option linter.unusedVariables false
theorem law_FnExactNext (l : List Ins) (s : Sta) (hl : (∀ x ∈ l, insOk x) ∧ l.length ≤ maxLen) (hs : staOk s) : ∃ k xs, M.run k 13 [.c (.r 39 l.length (insT l)), .agg (tSta s)] = some ([.c (.v (.bool true))], xs) :=
  ⟨big + 9, _, run13 (Nat.le_refl _) l s.at_ s.code s.regs s.out hl.2 hs.2.1.2 hs.2.2.1.2⟩
end Go.Proofs.Ytkfdfjjcjcadgaa.VM

/- The machine's answers to FnExactInsOk and FnExactProgOk. -/
import Derived.Test.YtkfdfjjcjcadgaaFn8
import Derived.Test.YtkfdfjjcjcadgaaOp
namespace Go.Proofs.Ytkfdfjjcjcadgaa.VM
open Go Go.Proofs
set_option linter.unusedVariables false
theorem law_FnExactInsOk (x : Ins) (places procs : Int) (hx : insOk x) (_ : i64 places) (_ : i64 procs) : ∃ k xs, M.run k 7 [.agg (tIns x), .c (.v (.int .i64 places)), .c (.v (.int .i64 procs))] = some ([.c (.v (.bool true))], xs) :=
  ⟨4, _, run7 x places procs⟩
theorem law_FnExactProgOk (l : List Ins) (procs : Int) (hl : (∀ x ∈ l, insOk x) ∧ l.length ≤ maxLen) (_ : i64 procs) : ∃ k xs, M.run k 11 [.c (.r 39 l.length (insT l)), .c (.v (.int .i64 procs))] = some ([.c (.v (.bool true))], xs) :=
  ⟨big + 8, _, run11 (Nat.le_refl _) l procs hl.2⟩
end Go.Proofs.Ytkfdfjjcjcadgaa.VM

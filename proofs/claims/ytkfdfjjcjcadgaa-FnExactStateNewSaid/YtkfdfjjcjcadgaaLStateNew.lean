/- The machine's answer to FnExactStateNew. -/
import Derived.Test.YtkfdfjjcjcadgaaFn1
namespace Go.Proofs.Ytkfdfjjcjcadgaa.VM
open Go Go.Proofs
set_option linter.unusedSimpArgs false
set_option linter.unusedVariables false
set_option maxRecDepth 100000
theorem run4 {j : Nat} (hj : big ≤ j) : M.run (j + 3) 4 [] = some ([.c (.v (.bool true))], []) := by
  rw [m_run (fn := Try.f4) (i0 := 0) rfl Try.func4 rfl rfl (by simp)]
  have e17 := run17 (j := j) hj 0 0 [0, 0, 0, 0] [] (by simp) (by simp)
  have e17' := run17 (j := j) hj
  have e18 := run18 (j := j) hj 0 0 [0, 0, 0, 0] [] 1 (by simp)
  have e19 := run19 (j := j) hj 0 0 4 0 1 (by simp)
  have e15 := run15 (j := j + 1)
  have e16 := run16 (j := j + 1)
  simp [stS, stR] at e17 e18 e19 e15 e16
  simp [own1, e15, e16, e17, e18, e19]

theorem law_FnExactStateNew : ∃ k xs, M.run k 4 [] = some ([.c (.v (.bool true))], xs) := ⟨big + 3, [], run4 (Nat.le_refl _)⟩
end Go.Proofs.Ytkfdfjjcjcadgaa.VM

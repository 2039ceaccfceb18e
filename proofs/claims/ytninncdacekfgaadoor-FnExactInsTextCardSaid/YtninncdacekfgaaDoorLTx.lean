/- The law FnExactInsText: reckoned. -/
import Derived.Test.YtninncdacekfgaaDoorTi
import Derived.Test.YtninncdacekfgaaDoorK2
namespace Go.Proofs.YtninncdacekfgaaDoor.VM
open Go Go.Proofs
set_option linter.unusedSimpArgs false
set_option linter.unusedVariables false
set_option maxRecDepth 100000
set_option maxHeartbeats 20000000
theorem run_FnExactInsText {j : Nat} (hj : big + 1 ≤ j) (x : Ins) : M.run (j + 5) 3 [.agg (tIns x)] = some ([.c (.v (.bool true))], [.agg (tIns x)]) := by
  have e1 := run28 (j := j + 3) x
  have e2 := run_specText hj x
  have e3 := run_implText hj x
  rw [m_run (fn := Tryd.f3) (i0 := 0) rfl Tryd.func3 rfl rfl (by simp [tIns])]
  simp only [tIns] at e1 e2 e3 ⊢
  generalize textS x = s at *
  have hs : (s != s) = false := by
    obtain ⟨a⟩ := s
    show (!(a == a)) = false
    simp
  simp -implicitDefEqProofs [e1, e2, e3, own1, hs]
theorem law_FnExactInsText (x : Ins) (_ : insOk x) : ∃ k xs, M.run k 3 [.agg (tIns x)] = some ([.c (.v (.bool true))], xs) :=
  ⟨_, _, run_FnExactInsText (Nat.le_refl _) x⟩
end Go.Proofs.YtninncdacekfgaaDoor.VM

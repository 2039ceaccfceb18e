/- The law FnExactSysOk, reckoned. -/
import Derived.Test.YtiejcppjjmmihaaGreatK12
namespace Go.Proofs.YtiejcppjjmmihaaGreat.VM
open Go Go.Proofs
set_option linter.unusedSimpArgs false
set_option linter.unusedVariables false
set_option maxRecDepth 100000
set_option maxHeartbeats 40000000
theorem run_FnExactSysOk {j : Nat} (hj : big ≤ j) (s : Sy) (hs : syOk s) : M.run (j + 11) 3 [.agg (syL s)] = some ([.c (.v (.bool true))], [.agg (syL s)]) := by
  obtain ⟨r, e1, k1⟩ := run_szSys (j := j + 6) (by omega) s hs
  by_cases h1 : r < 0
  · rw [m_run (fn := Tryz.f3) (i0 := 0) rfl Tryz.func3 rfl rfl (by simp [syL])]
    simp only [syL] at e1 ⊢
    simp -implicitDefEqProofs [own1, e1, h1]
  · have h := (k1.resolve_left h1).2
    have e2 := run_toSys (j := j + 6) (by omega) s h
    have e3 := run_specSys (j := j + 3) (by omega) s h
    have e4 := run_implSysOk hj s h
    have e6 := run_eqSys (j := j + 6) (by omega) s h
    generalize sysB s = q at *
    rw [m_run (fn := Tryz.f3) (i0 := 0) rfl Tryz.func3 rfl rfl (by simp [syL])]
    simp only [syL, syR, syS] at e1 e2 e3 e4 e6 ⊢
    simp -implicitDefEqProofs (maxSteps := 10000000) [own1, e1, e2, e3, e4, e6, h1]
theorem law_FnExactSysOk (s : Sy) (hs : syOk s) : ∃ k xs, M.run k 3 [.agg (tSyL s)] = some ([.c (.v (.bool true))], xs) :=
  ⟨_, _, run_FnExactSysOk (Nat.le_refl _) s hs⟩
end Go.Proofs.YtiejcppjjmmihaaGreat.VM

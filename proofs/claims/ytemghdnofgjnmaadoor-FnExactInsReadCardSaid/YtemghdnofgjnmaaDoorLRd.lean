/- The law FnExactInsRead: reckoned. -/
import Derived.Test.YtemghdnofgjnmaaDoorSr
import Derived.Test.YtemghdnofgjnmaaDoorPc
namespace Go.Proofs.YtemghdnofgjnmaaDoor.VM
open Go Go.Proofs
set_option linter.unusedSimpArgs false
set_option linter.unusedVariables false
set_option maxRecDepth 100000
set_option maxHeartbeats 20000000
theorem run_eqIns {j : Nat} (x : Ins) : M.run (j + 1) 7 [.agg (tIns x), .agg (tIns x)] = some ([.c (.v (.bool true))], [.agg (tIns x), .agg (tIns x)]) := by
  rw [m_run (fn := Tryd.f7) (i0 := 0) rfl Tryd.func7 rfl rfl (by simp [tIns])]
  simp -implicitDefEqProofs [tIns]
theorem law_FnExactInsRead (s : ByteArray) : ∃ k xs, M.run k 3 [.c (.v (.string s))] = some ([.c (.v (.bool true))], xs) := by
  refine ⟨big + 1 + 5 + 1, [.c (.v (.string s))], ?_⟩
  rw [m_run (fn := Tryd.f3) (i0 := 0) rfl Tryd.func3 rfl rfl (by simp)]
  by_cases h : 1048576 < s.size
  · have h1 : (1048576 : Int) < s.size := by omega
    simp -implicitDefEqProofs [h, h1]
    done
  · have h1 : ¬ (1048576 : Int) < s.size := by omega
    obtain ⟨w0, ws, hS, hS1, hS2⟩ := wS_all s
    obtain ⟨v0, vs, hI, hI1, hI2⟩ := wI_all s
    have e1 := run_specRead (j := big + 1) (Nat.le_refl _) s w0 ws (by omega) hS (fun w hw => by have := hS1 w hw; omega) (by omega)
    have e2 := run_implRead (j := big + 1) (Nat.le_refl _) s v0 vs (by omega) hI (fun w hw => by have := hI1 w hw; omega) (by omega)
    rw [(read_same hS hI).1] at e1
    generalize implI s v0 vs = q at *
    obtain ⟨x, b⟩ := q
    have e3 := run_eqIns (j := big + 1 + 4) x
    obtain ⟨op, r, a, b', n⟩ := x
    have hb : (b != b) = false := by cases b <;> rfl
    simp only [tIns] at e1 e2 e3
    simp -implicitDefEqProofs [h, h1, e1, e2, e3, own1, hb]
    done
end Go.Proofs.YtemghdnofgjnmaaDoor.VM

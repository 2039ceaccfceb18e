/- Draws of programs for a new system; the law FnNew. -/
import Derived.Test.YtninncdacekfgaaGreatK25s
import Derived.Test.YtninncdacekfgaaGreatK26s
import Derived.Test.YtninncdacekfgaaGreatK16s
set_option linter.unusedSimpArgs false
set_option linter.unusedVariables false
set_option maxRecDepth 100000
set_option maxHeartbeats 40000000
namespace Go.Proofs.YtninncdacekfgaaGreat.VM
open Go Go.Proofs
theorem run_maxN {j : Nat} (a b : Int) : M.run (j + 1) 64 [.c (.v (.int .i64 a)), .c (.v (.int .i64 b))] = some ([.c (.v (.int .i64 (max a b)))], [.c (.v (.int .i64 a)), .c (.v (.int .i64 b))]) := by
 rw [m_run (fn := Tryz.f64) (i0 := 0) rfl Tryz.func64 rfl rfl (by simp)]
 by_cases h : b < a
 ·rw [Int.max_eq_left (by omega)]
  simp -implicitDefEqProofs [h]
 ·rw [Int.max_eq_right (by omega)]
  simp -implicitDefEqProofs [h]
end Go.Proofs.YtninncdacekfgaaGreat.VM
namespace Go.Proofs.YtninncdacekfgaaGreat.VM
open Go Go.Proofs
theorem totN {α : Type} {c : Nat} : ∀ {l : List (List α)}, (∀ x ∈ l, x.length ≤ c) → tot l ≤ c * l.length
 | [], _ => by simp [tot]
 | x :: l, h => by
  have h1 := totN (l := l) fun y hy => h y (List.mem_cons_of_mem _ hy)
  have h2 := h x (List.mem_cons_self ..)
  have : tot (x :: l) = x.length + tot l := by simp [tot]
  rw [this, List.length_cons, Nat.mul_add]
  omega
theorem run_sameSt {j : Nat} (hj : big ≤ j) (s : Sta) (h1 : s.regs.length ≤ 1048576) (h2 : s.out.length ≤ 1048576) : M.run (j + 2) 36 [.agg (tSta s), .agg (tSta s)] = some ([.c (.v (.bool true))], [.agg (tSta s), .agg (tSta s)]) := by
 have e1 := run_sameInts hj s.regs h1
 have e2 := run_sameInts hj s.out h2
 rw [m_run (fn := Tryz.f36) (i0 := 0) rfl Tryz.func36 rfl rfl (by simp [tSta, stR])]
 simp -implicitDefEqProofs [tSta, stR, own1, e1, e2]
end Go.Proofs.YtninncdacekfgaaGreat.VM

/- Draws of programs for a new system; the law FnNew. -/
import Derived.Test.YtkgkbkpgpbpjhaaGreatK25g
import Derived.Test.YtkgkbkpgpbpjhaaGreatK26g
import Derived.Test.YtkgkbkpgpbpjhaaGreatK16g
set_option linter.unusedSimpArgs false
set_option linter.unusedVariables false
set_option maxRecDepth 100000
set_option maxHeartbeats 40000000
namespace Go.Proofs.YtkgkbkpgpbpjhaaGreat.VM
open Go Go.Proofs
theorem run_maxN {j : Nat} (a b : Int) : M.run (j + 1) 162 [.c (.v (.int .i64 a)), .c (.v (.int .i64 b))] = some ([.c (.v (.int .i64 (max a b)))], [.c (.v (.int .i64 a)), .c (.v (.int .i64 b))]) := by
 rw [m_run (fn := Tryz.f162) (i0 := 0) rfl Tryz.func162 rfl rfl (by simp)]
 by_cases h : b < a
 ·rw [Int.max_eq_left (by omega)]
  simp -implicitDefEqProofs [h]
 ·rw [Int.max_eq_right (by omega)]
  simp -implicitDefEqProofs [h]
end Go.Proofs.YtkgkbkpgpbpjhaaGreat.VM
namespace Go.Proofs.YtkgkbkpgpbpjhaaGreat.VM
open Go Go.Proofs
theorem totN {α : Type} {c : Nat} : ∀ {l : List (List α)}, (∀ x ∈ l, x.length ≤ c) → tot l ≤ c * l.length
 | [], _ => by simp [tot]
 | x :: l, h => by
  have h1 := totN (l := l) fun y hy => h y (List.mem_cons_of_mem _ hy)
  have h2 := h x (List.mem_cons_self ..)
  have : tot (x :: l) = x.length + tot l := by simp [tot]
  rw [this, List.length_cons, Nat.mul_add]
  omega
end Go.Proofs.YtkgkbkpgpbpjhaaGreat.VM

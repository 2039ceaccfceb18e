/- Draws of what happened; the law FnCounted. -/
import Derived.Test.YtninncdacekfgaaK6
import Derived.Test.YtninncdacekfgaaK13
import Derived.Test.YtninncdacekfgaaK24d
import Derived.Test.YtninncdacekfgaaK25d
set_option linter.unusedSimpArgs false
set_option linter.unusedVariables false
set_option maxRecDepth 100000
set_option maxHeartbeats 20000000
namespace Go.Proofs.Ytninncdacekfgaa.VM
open Go Go.Proofs
end Go.Proofs.Ytninncdacekfgaa.VM
namespace Go.Proofs.Ytninncdacekfgaa.VM
open Go Go.Proofs
theorem z0 : ((0 : Nat) : Int) = 0 := rfl
end Go.Proofs.Ytninncdacekfgaa.VM
namespace Go.Proofs.Ytninncdacekfgaa.VM
open Go Go.Proofs
theorem op22 : OpT Try.prog 22 (fun bs : List Int => [.r 5 bs.length (octT bs)]) (fun bs => (∀ n ∈ bs, 0 ≤ n ∧ n ≤ 255) ∧ bs.length ≤ maxLen) := ⟨fun h => by
 obtain ⟨xs, R, h1, h2, h3⟩ := (opT_slice Try.underlying22 (by simp) (opT_u8 Try.underlying5)).op h
 refine ⟨xs, R, ?_, h2, h3⟩
 have e : ∀ l : List Int, (l.flatMap fun n => [T.v (.int .u8 n)]) = octT l := fun l => by
  unfold octT
  induction l with
  | nil => rfl
  | cons x l ih => rw [List.flatMap_cons, ih]; rfl
 rw [← e xs]
 exact h1⟩
theorem run_big {j : Nat} (n : Nat) (l : List T) (hn : n ≤ 9223372036854775807) : M.run (j + 1) 5 [.c (.r 5 n l)] = some ([.c (.v (.bool (decide (1048576 < n))))], [.c (.r 5 n l)]) := by
 rw [m_run (fn := Try.f5) (i0 := 0) rfl Try.func5 rfl rfl (by simp)]
 simp -implicitDefEqProofs
 by_cases h : 1048576 < n
 ·simp [h, show (1048576 : Int) < n by omega]
 ·simp [h, show ¬ (1048576 : Int) < n by omega]
def H_sI (xs : List Int) (i : Nat) : St := ⟨[(0, .c (.sl 0 [] 0 xs.length)), (1, .c (.sl 1 [] 0 xs.length)), (5, .c (.v (.int .i64 i)))], [(0, ⟨.ro, 3, ints xs⟩), (1, ⟨.ro, 3, ints xs⟩)]⟩
theorem run_sameInts {j : Nat} (hj : big ≤ j) (xs : List Int) (hl : xs.length ≤ 1048576) : M.run (j + 1) 18 [.c (.r 3 xs.length (ints xs)), .c (.r 3 xs.length (ints xs))] = some ([.c (.v (.bool true))], [.c (.r 3 xs.length (ints xs)), .c (.r 3 xs.length (ints xs))]) := by
 rw [m_run (fn := Try.f18) (i0 := 0) rfl Try.func18 rfl rfl (by simp)]
 simp -implicitDefEqProofs
 rw [loop_then (H_sI xs) xs.length (by simp -implicitDefEqProofs [H_sI, hint1]) (by simp [big] at hj; omega) (fun i hi => by
  simp -implicitDefEqProofs [H_sI, hint1, hi, ints_get hi, show i + 1 ≤ xs.length by omega, w64 (x := (i : Int) + 1) (by omega)])]
 simp -implicitDefEqProofs [H_sI]
end Go.Proofs.Ytninncdacekfgaa.VM

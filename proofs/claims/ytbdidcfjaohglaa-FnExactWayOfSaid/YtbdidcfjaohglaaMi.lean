/- Rows of instructions, marked. -/
import Derived.Test.YtbdidcfjaohglaaFn3
namespace Go.Proofs.Ytbdidcfjaohglaa.VM
open Go Go.Proofs
set_option linter.unusedSimpArgs false
set_option linter.unusedVariables false
set_option maxRecDepth 100000
set_option maxHeartbeats 4000000
def insUp (k : Int) (n : Nat) : List Ins := (List.range n).map fun j : Nat => ⟨k + 5 * (j : Int), k + 5 * (j : Int) + 1, k + 5 * (j : Int) + 1 + 1, k + 5 * (j : Int) + 1 + 1 + 1, k + 5 * (j : Int) + 1 + 1 + 1 + 1⟩
@[simp] theorem insUp_len (k : Int) (n : Nat) : (insUp k n).length = n := by simp [insUp]
@[simp] theorem insUp_zero (k : Int) : insUp k 0 = [] := rfl
theorem insUp_succ (k : Int) (n : Nat) : insUp k (n + 1) = insUp k n ++ [⟨k + 5 * (n : Int), k + 5 * (n : Int) + 1, k + 5 * (n : Int) + 1 + 1, k + 5 * (n : Int) + 1 + 1 + 1, k + 5 * (n : Int) + 1 + 1 + 1 + 1⟩] := by simp [insUp, List.range_succ]
def H_markInsS (k : Int) (l : List Ins) (i : Nat) : St := ⟨[(0, .c (.sl 0 [] 0 l.length)), (1, .c (.v (.int .i64 (k + 5 * i)))), (5, .c (.v (.int .i64 i)))], [(0, ⟨.own, 110, insT (insUp k i ++ l.drop i)⟩)]⟩
theorem run_markInsS {j : Nat} (hj : big ≤ j) (l : List Ins) (k : Int) (hk : 0 ≤ k ∧ k + 5 * l.length ≤ 4611686018427387904) :
    M.run (j + 1) 32 [.c (.s 110 l.length (insT l)), .c (.v (.int .i64 k))] = some ([.c (.v (.int .i64 (k + 5 * l.length)))], [.c (.s 110 l.length (insT (insUp k l.length))), .c (.v (.int .i64 k))]) := by
  rw [m_run (fn := Try.f32) (i0 := 0) rfl Try.func32 rfl rfl (by simp)]
  simp -implicitDefEqProofs
  rw [loop_to (H_markInsS k l) l.length (by simp -implicitDefEqProofs [H_markInsS, hint1]) (by simp [big] at hj; omega) (fun i hi => by
    have e := insT_set (l := insUp k i ++ l.drop i) (i := i) (by simp; omega) ⟨k + 5 * (i : Int), k + 5 * (i : Int) + 1, k + 5 * (i : Int) + 1 + 1, k + 5 * (i : Int) + 1 + 1 + 1, k + 5 * (i : Int) + 1 + 1 + 1 + 1⟩
    rw [set_mid (l := insUp k i) (insUp_len k i) (r := l.drop i) (by simp; omega), ← insUp_succ] at e
    simp -implicitDefEqProofs at e
    simp -implicitDefEqProofs [H_markInsS, hint1, hi, w64 (x := (i : Int) + 1) (by omega), w64 (x := k + 5 * (i : Int) + 1) (by omega), w64 (x := k + 5 * (i : Int) + 1 + 1) (by omega), w64 (x := k + 5 * (i : Int) + 1 + 1 + 1) (by omega), w64 (x := k + 5 * (i : Int) + 1 + 1 + 1 + 1) (by omega), w64 (x := k + 5 * (i : Int) + 1 + 1 + 1 + 1 + 1) (by omega), show i + (l.length - i) = l.length by omega, show i * 5 + 1 ≤ l.length * 5 by omega, show i * 5 + 1 + 1 ≤ l.length * 5 by omega, show i * 5 + 2 + 1 ≤ l.length * 5 by omega, show i * 5 + 3 + 1 ≤ l.length * 5 by omega, show i * 5 + 4 + 1 ≤ l.length * 5 by omega, e]
    omega) (by simp -implicitDefEqProofs [H_markInsS, stops])]
  simp -implicitDefEqProofs [H_markInsS]
end Go.Proofs.Ytbdidcfjaohglaa.VM

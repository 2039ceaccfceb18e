/- Rows of events: measured, copied, compared, marked. -/
import Derived.Test.YtbdidcfjaohglaaRep1
import Derived.Test.YtbdidcfjaohglaaLDo
namespace Go.Proofs.Ytbdidcfjaohglaa.VM
open Go Go.Proofs
set_option linter.unusedSimpArgs false
set_option linter.unusedVariables false
set_option maxRecDepth 100000
set_option maxHeartbeats 4000000
theorem run_szEventS {j : Nat} (n : Nat) (l : List T) (k : Int) (hn : n ≤ 9223372036854775807) (hk : 0 ≤ k ∧ k ≤ 1048576) :
    M.run (j + 1) 42 [.c (.r 52 n l), .c (.v (.int .i64 k))] = some ([.c (.v (.int .i64 (if k - n < 0 then -1 else k - n)))], [.c (.r 52 n l), .c (.v (.int .i64 k))]) := by
  rw [m_run (fn := Try.f42) (i0 := 0) rfl Try.func42 rfl rfl (by simp)]
  by_cases h : k - n < 0 <;> simp -implicitDefEqProofs [h, w64 (x := k - n) (by omega)]
def H_toEventS (xs : List Ev) (i : Nat) : St := ⟨[(0, .c (.sl 0 [] 0 xs.length)), (3, .c (.sl 512 [] 0 xs.length)), (4, .c (.v (.int .i64 i)))], [(0, ⟨.ro, 52, evT xs⟩), (512, ⟨.own, 61, evT (tp xs ⟨0,0,0⟩ i)⟩)]⟩
theorem run_toEventS {j : Nat} (hj : big ≤ j) (xs : List Ev) (hl : xs.length ≤ 1048576) :
    M.run (j + 2) 44 [.c (.r 52 xs.length (evT xs))] = some ([.c (.s 61 xs.length (evT xs))], [.c (.r 52 xs.length (evT xs))]) := by
  rw [m_run (fn := Try.f44) (i0 := 0) rfl Try.func44 rfl rfl (by simp)]
  simp -implicitDefEqProofs [le_most hl, evT_rep]
  rw [loop_to (H_toEventS xs) xs.length (by simp -implicitDefEqProofs [H_toEventS, hint1]) (by simp [big] at hj; omega) (fun i hi => by
    have e := run_toEvent (j := j) xs[i]
    have e2 := evT_set (l := tp xs ⟨0,0,0⟩ i) (i := i) (by simpa using hi) xs[i]
    rw [tp_set xs _ hi] at e2
    simp only [tEv] at e
    simp -implicitDefEqProofs [H_toEventS, hint1, hi, w64 (x := (i : Int) + 1) (by omega), show i * 3 + 3 ≤ xs.length * 3 by omega, tEv, e, e2, own1]) (by simp -implicitDefEqProofs [H_toEventS, stops])]
  simp -implicitDefEqProofs [H_toEventS]
def H_eqEventS (xs : List Ev) (i : Nat) : St := ⟨[(0, .c (.sl 0 [] 0 xs.length)), (1, .c (.sl 1 [] 0 xs.length)), (5, .c (.v (.int .i64 i)))], [(0, ⟨.ro, 61, evT xs⟩), (1, ⟨.ro, 61, evT xs⟩)]⟩
theorem run_eqEventS {j : Nat} (hj : big ≤ j) (xs : List Ev) (hl : xs.length ≤ 1048576) :
    M.run (j + 2) 46 [.c (.r 61 xs.length (evT xs)), .c (.r 61 xs.length (evT xs))] = some ([.c (.v (.bool true))], [.c (.r 61 xs.length (evT xs)), .c (.r 61 xs.length (evT xs))]) := by
  rw [m_run (fn := Try.f46) (i0 := 0) rfl Try.func46 rfl rfl (by simp)]
  simp -implicitDefEqProofs
  rw [loop_to (H_eqEventS xs) xs.length (by simp -implicitDefEqProofs [H_eqEventS, hint1]) (by simp [big] at hj; omega) (fun i hi => by
    have e := run56 (j := j) xs[i]
    simp only [tEv] at e
    simp -implicitDefEqProofs [H_eqEventS, hint1, hi, w64 (x := (i : Int) + 1) (by omega), show i * 3 + 3 ≤ xs.length * 3 by omega, tEv, e, own1]) (by simp -implicitDefEqProofs [H_eqEventS, stops])]
  simp -implicitDefEqProofs [H_eqEventS]
def evUp (k : Int) (n : Nat) : List Ev := (List.range n).map fun j : Nat => ⟨k + 3 * (j : Int), k + 3 * (j : Int) + 1, k + 3 * (j : Int) + 1 + 1⟩
@[simp] theorem evUp_len (k : Int) (n : Nat) : (evUp k n).length = n := by simp [evUp]
@[simp] theorem evUp_zero (k : Int) : evUp k 0 = [] := rfl
theorem evUp_succ (k : Int) (n : Nat) : evUp k (n + 1) = evUp k n ++ [⟨k + 3 * (n : Int), k + 3 * (n : Int) + 1, k + 3 * (n : Int) + 1 + 1⟩] := by simp [evUp, List.range_succ]
def H_markEventS (k : Int) (l : List Ev) (i : Nat) : St := ⟨[(0, .c (.sl 0 [] 0 l.length)), (1, .c (.v (.int .i64 (k + 3 * i)))), (5, .c (.v (.int .i64 i)))], [(0, ⟨.own, 61, evT (evUp k i ++ l.drop i)⟩)]⟩
theorem run_markEventS {j : Nat} (hj : big ≤ j) (l : List Ev) (k : Int) (hk : 0 ≤ k ∧ k + 3 * l.length ≤ 4611686018427387904) :
    M.run (j + 1) 47 [.c (.s 61 l.length (evT l)), .c (.v (.int .i64 k))] = some ([.c (.v (.int .i64 (k + 3 * l.length)))], [.c (.s 61 l.length (evT (evUp k l.length))), .c (.v (.int .i64 k))]) := by
  rw [m_run (fn := Try.f47) (i0 := 0) rfl Try.func47 rfl rfl (by simp)]
  simp -implicitDefEqProofs
  rw [loop_to (H_markEventS k l) l.length (by simp -implicitDefEqProofs [H_markEventS, hint1]) (by simp [big] at hj; omega) (fun i hi => by
    have e := evT_set (l := evUp k i ++ l.drop i) (i := i) (by simp; omega) ⟨k + 3 * (i : Int), k + 3 * (i : Int) + 1, k + 3 * (i : Int) + 1 + 1⟩
    rw [set_mid (l := evUp k i) (evUp_len k i) (r := l.drop i) (by simp; omega), ← evUp_succ] at e
    simp -implicitDefEqProofs at e
    simp -implicitDefEqProofs [H_markEventS, hint1, hi, w64 (x := (i : Int) + 1) (by omega), w64 (x := k + 3 * (i : Int) + 1) (by omega), w64 (x := k + 3 * (i : Int) + 1 + 1) (by omega), w64 (x := k + 3 * (i : Int) + 1 + 1 + 1) (by omega), show i + (l.length - i) = l.length by omega, show i * 3 + 1 ≤ l.length * 3 by omega, show i * 3 + 1 + 1 ≤ l.length * 3 by omega, show i * 3 + 2 + 1 ≤ l.length * 3 by omega, e]
    omega) (by simp -implicitDefEqProofs [H_markEventS, stops])]
  simp -implicitDefEqProofs [H_markEventS]
end Go.Proofs.Ytbdidcfjaohglaa.VM

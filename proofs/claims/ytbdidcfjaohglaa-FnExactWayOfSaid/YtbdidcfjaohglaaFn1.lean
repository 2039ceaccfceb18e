/- The machine's answers: rows of numbers, states. -/
import Derived.Test.YtbdidcfjaohglaaMach
namespace Go.Proofs.Ytbdidcfjaohglaa.VM
open Go Go.Proofs
set_option linter.unusedSimpArgs false
set_option linter.unusedVariables false
set_option maxRecDepth 100000
def H37 (k : Int) (xs : List Int) (i : Nat) : St := ⟨[(0, .c (.sl 0 [] 0 xs.length)), (1, .c (.v (.int .i64 (k + i)))), (5, .c (.v (.int .i64 i)))], [(0, ⟨.own, 3, ints (upto k i ++ xs.drop i)⟩)]⟩
theorem run37 {j : Nat} (hj : big ≤ j) (xs : List Int) (k : Int) (hk : 0 ≤ k ∧ k + xs.length ≤ 4611686018427387904) :
    M.run (j + 1) 16 [.c (.s 3 xs.length (ints xs)), .c (.v (.int .i64 k))] = some ([.c (.v (.int .i64 (k + xs.length)))], [.c (.s 3 xs.length (ints (upto k xs.length))), .c (.v (.int .i64 k))]) := by
  rw [m_run (fn := Try.f16) (i0 := 0) rfl Try.func16 rfl rfl (by simp)]
  simp -implicitDefEqProofs
  rw [loop_up (H37 k xs) xs.length (.exit 0) ⟨ins (ins (ins (ins (H37 k xs xs.length).t 6 (.c (.v (.int .i64 xs.length)))) 7 (.c (.sl 0 [] 0 xs.length))) 8 (.c (.v (.int .i64 xs.length)))) 9 (.c (.v (.bool false))), (H37 k xs xs.length).o⟩ (by simp) (by simp -implicitDefEqProofs [H37, hint1, upto]) (by simp -implicitDefEqProofs [big] at hj; omega)]
  · simp -implicitDefEqProofs [H37]
  · intro i hi
    simp -implicitDefEqProofs [H37, hint1, hi, w64 (x := k + i + 1) (by omega), w64 (x := (i : Int) + 1) (by omega), set_mid (l := upto k i) (upto_len k i) (r := xs.drop i) (by simp; omega), upto_succ, show i + 1 ≤ i + (xs.length - i) by omega]
    omega
  · simp -implicitDefEqProofs [H37]

def H34 (xs : List Int) (i : Nat) : St := ⟨[(0, .c (.sl 0 [] 0 xs.length)), (1, .c (.sl 1 [] 0 xs.length)), (5, .c (.v (.int .i64 i)))], [(0, ⟨.ro, 3, ints xs⟩), (1, ⟨.ro, 3, ints xs⟩)]⟩
theorem run34 {j : Nat} (hj : big ≤ j) (xs : List Int) (hl : xs.length ≤ 4611686018427387904) :
    M.run (j + 1) 13 [.c (.r 3 xs.length (ints xs)), .c (.r 3 xs.length (ints xs))] = some ([.c (.v (.bool true))], [.c (.r 3 xs.length (ints xs)), .c (.r 3 xs.length (ints xs))]) := by
  rw [m_run (fn := Try.f13) (i0 := 0) rfl Try.func13 rfl rfl (by simp)]
  simp -implicitDefEqProofs
  rw [loop_up (H34 xs) xs.length (.exit 0) ⟨ins (ins (ins (ins (H34 xs xs.length).t 11 (.c (.v (.int .i64 xs.length)))) 12 (.c (.sl 0 [] 0 xs.length))) 13 (.c (.v (.int .i64 xs.length)))) 14 (.c (.v (.bool false))), (H34 xs xs.length).o⟩ (by simp) (by simp -implicitDefEqProofs [H34, hint1]) (by simp -implicitDefEqProofs [big] at hj; omega)]
  · simp -implicitDefEqProofs [H34]
  · intro i hi
    simp -implicitDefEqProofs [H34, hint1, hi, w64 (x := (i : Int) + 1) (by omega)]
  · simp -implicitDefEqProofs [H34]
def H38 (k : Int) (n : Nat) (i : Nat) : St := ⟨[(0, .c (.sl 0 [] 0 n)), (1, .c (.v (.int .i64 (k + i)))), (5, .c (.v (.int .i64 i)))], [(0, ⟨.ro, 3, ints (upto k n)⟩)]⟩
theorem run38 {j : Nat} (hj : big ≤ j) (n : Nat) (k : Int) (hk : 0 ≤ k ∧ k + n ≤ 4611686018427387904) :
    M.run (j + 1) 17 [.c (.r 3 n (ints (upto k n))), .c (.v (.int .i64 k))] = some ([.c (.v (.int .i64 (k + n)))], [.c (.r 3 n (ints (upto k n))), .c (.v (.int .i64 k))]) := by
  rw [m_run (fn := Try.f17) (i0 := 0) rfl Try.func17 rfl rfl (by simp)]
  simp -implicitDefEqProofs
  rw [loop_up (H38 k n) n (.exit 0) ⟨ins (ins (ins (ins (H38 k n n).t 6 (.c (.v (.int .i64 n)))) 7 (.c (.sl 0 [] 0 n))) 8 (.c (.v (.int .i64 n)))) 9 (.c (.v (.bool false))), (H38 k n n).o⟩ (by simp) (by simp -implicitDefEqProofs [H38, hint1]) (by simp -implicitDefEqProofs [big] at hj; omega)]
  · simp -implicitDefEqProofs [H38]
  · intro i hi
    simp -implicitDefEqProofs [H38, hint1, hi, w64 (x := (i : Int) + 1) (by omega), w64 (x := k + i + 1) (by omega)]
    omega
  · simp -implicitDefEqProofs [H38]
/-! ### State -/
def stR (a : Int) (xs ys : List Int) (c : Int) : List T := [.v (.int .i64 a), .r 3 xs.length (ints xs), .r 3 ys.length (ints ys), .v (.int .i64 c)]
def stS (a : Int) (xs ys : List Int) (c : Int) : List T := [.v (.int .i64 a), .s 3 xs.length (ints xs), .s 3 ys.length (ints ys), .v (.int .i64 c)]
theorem run17 {j : Nat} (hj : big ≤ j) (a c : Int) (xs ys : List Int) (hx : xs.length ≤ 4611686018427387904) (hy : ys.length ≤ 4611686018427387904) :
    M.run (j + 2) 30 [.agg (stR a xs ys c), .agg (stR a xs ys c)] = some ([.c (.v (.bool true))], [.agg (stR a xs ys c), .agg (stR a xs ys c)]) := by
  rw [m_run (fn := Try.f30) (i0 := 0) rfl Try.func30 rfl rfl (by simp)]
  simp -implicitDefEqProofs [stR, own1, run34 hj xs hx, run34 hj ys hy]
theorem run19 {j : Nat} (hj : big ≤ j) (a c : Int) (n m : Nat) (k : Int) (hk : 0 ≤ k ∧ k + n + m ≤ 4611686018427387904) :
    M.run (j + 2) 34 [.agg (stR a (upto k n) (upto (k + n) m) c), .c (.v (.int .i64 k))] = some ([.c (.v (.int .i64 (k + n + m)))], [.agg (stR a (upto k n) (upto (k + n) m) c), .c (.v (.int .i64 k))]) := by
  rw [m_run (fn := Try.f34) (i0 := 0) rfl Try.func34 rfl rfl (by simp)]
  simp -implicitDefEqProofs [stR, own1, run38 hj n k (by omega), run38 hj m (k + n) (by omega), show ¬ (k + n < 0) by omega, show ¬ (k + n + m < 0) by omega]
theorem run18 {j : Nat} (hj : big ≤ j) (a c : Int) (xs ys : List Int) (k : Int) (hk : 0 ≤ k ∧ k + xs.length + ys.length ≤ 4611686018427387904) :
    M.run (j + 2) 33 [.agg (stS a xs ys c), .c (.v (.int .i64 k))] = some ([.c (.v (.int .i64 (k + xs.length + ys.length)))], [.agg (stS a (upto k xs.length) (upto (k + xs.length) ys.length) c), .c (.v (.int .i64 k))]) := by
  rw [m_run (fn := Try.f33) (i0 := 0) rfl Try.func33 rfl rfl (by simp)]
  simp -implicitDefEqProofs [stS, own1, run37 hj xs k (by omega), run37 hj ys (k + xs.length) (by omega)]
theorem run15 {j : Nat} : M.run (j + 1) 116 [] = some ([.agg (stS 0 [0, 0, 0, 0] [] 0)], []) := by
  rw [m_run (fn := Try.f116) (i0 := 0) rfl Try.func116 rfl rfl (by simp)]
  simp -implicitDefEqProofs [stS, most, ints]
theorem run16 {j : Nat} : M.run (j + 1) 95 [] = some ([.agg (stS 0 [0, 0, 0, 0] [] 0)], []) := by
  rw [m_run (fn := Try.f95) (i0 := 0) rfl Try.func95 rfl rfl (by simp)]
  simp -implicitDefEqProofs [stS, most, ints]

end Go.Proofs.Ytbdidcfjaohglaa.VM

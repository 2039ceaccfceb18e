/- Rows that are joined; the machine. -/
import Derived.Test.YtninncdacekfgaaGreatFxs
import Derived.WalkKit
import Derived.Lib.Walk
import Derived.Lib.SliceRun
import Derived.Lib.AppendZeros
import Derived.Tactics
import Derived.Tactics2
import Derived.Test.YtninncdacekfgaaGreatK1s
import Derived.Test.YtninncdacekfgaaGreatK0s
import Derived.Test.YtninncdacekfgaaGreatV3d
import Derived.Test.YtninncdacekfgaaGreatFxd
import Derived.Test.YtninncdacekfgaaGreatMkd
import Derived.Test.YtninncdacekfgaaGreatTabd
set_option linter.unusedSimpArgs false
set_option linter.unusedVariables false
set_option maxRecDepth 100000
set_option maxHeartbeats 4000000
namespace Go.Proofs.YtninncdacekfgaaGreat.VM
open Go Go.Proofs
end Go.Proofs.YtninncdacekfgaaGreat.VM
namespace Go.Proofs.YtninncdacekfgaaGreat.VM
open Go Go.Proofs Go.Proofs.YtninncdacekfgaaGreatW.PrintWords
section
variable {P : Program} {w w1 w2 w0 : World} {mine : Ctx} {o o1 o2 : OM} {loc loc1 loc2 : Nat → Value} {O R : Nat → List Nat} {σ σ1 σ2 : St} {a : Act}
end
end Go.Proofs.YtninncdacekfgaaGreat.VM
namespace Go.Proofs.YtninncdacekfgaaGreat.VM
open Go Go.Proofs Go.Proofs.YtninncdacekfgaaGreatW.PrintWords
end Go.Proofs.YtninncdacekfgaaGreat.VM
namespace Go.Proofs.YtninncdacekfgaaGreat.VM
open Go Go.Proofs Go.RowKit Go.Proofs.YtninncdacekfgaaGreatW.PrintWords
end Go.Proofs.YtninncdacekfgaaGreat.VM
namespace Go.Proofs.YtninncdacekfgaaGreat.VM
open Go Go.Proofs
end Go.Proofs.YtninncdacekfgaaGreat.VM
namespace Go.Proofs.YtninncdacekfgaaGreat.VM
open Go Go.Proofs
def H37 (k : Int) (xs : List Int) (i : Nat) : St := ⟨[(0, .c (.sl 0 [] 0 xs.length)), (1, .c (.v (.int .i64 (k + i)))), (5, .c (.v (.int .i64 i)))], [(0, ⟨.own, 3, ints (upto k i ++ xs.drop i)⟩)]⟩
theorem run37 {j : Nat} (hj : big ≤ j) (xs : List Int) (k : Int) (hk : 0 ≤ k ∧ k + xs.length ≤ 4611686018427387904) :
  M.run (j + 1) 21 [.c (.s 3 xs.length (ints xs)), .c (.v (.int .i64 k))] = some ([.c (.v (.int .i64 (k + xs.length)))], [.c (.s 3 xs.length (ints (upto k xs.length))), .c (.v (.int .i64 k))]) := by
 rw [m_run (fn := Tryz.f21) (i0 := 0) rfl Tryz.func21 rfl rfl (by simp)]
 simp -implicitDefEqProofs
 rw [loop_up (H37 k xs) xs.length (.exit 0) ⟨ins (ins (ins (ins (H37 k xs xs.length).t 6 (.c (.v (.int .i64 xs.length)))) 7 (.c (.sl 0 [] 0 xs.length))) 8 (.c (.v (.int .i64 xs.length)))) 9 (.c (.v (.bool false))), (H37 k xs xs.length).o⟩ (by simp) (by simp -implicitDefEqProofs [H37, hint1, upto]) (by simp -implicitDefEqProofs [big] at hj; omega)]
 ·simp -implicitDefEqProofs [H37]
 ·intro i hi
  simp -implicitDefEqProofs [H37, hint1, hi, w64 (x := k + i + 1) (by omega), w64 (x := (i : Int) + 1) (by omega), set_mid (l := upto k i) (upto_len k i) (r := xs.drop i) (by simp; omega), upto_succ, show i + 1 ≤ i + (xs.length - i) by omega]
  omega
 ·simp -implicitDefEqProofs [H37]
def H34 (xs : List Int) (i : Nat) : St := ⟨[(0, .c (.sl 0 [] 0 xs.length)), (1, .c (.sl 1 [] 0 xs.length)), (5, .c (.v (.int .i64 i)))], [(0, ⟨.ro, 3, ints xs⟩), (1, ⟨.ro, 3, ints xs⟩)]⟩
theorem run34 {j : Nat} (hj : big ≤ j) (xs : List Int) (hl : xs.length ≤ 4611686018427387904) :
  M.run (j + 1) 19 [.c (.r 3 xs.length (ints xs)), .c (.r 3 xs.length (ints xs))] = some ([.c (.v (.bool true))], [.c (.r 3 xs.length (ints xs)), .c (.r 3 xs.length (ints xs))]) := by
 rw [m_run (fn := Tryz.f19) (i0 := 0) rfl Tryz.func19 rfl rfl (by simp)]
 simp -implicitDefEqProofs
 rw [loop_up (H34 xs) xs.length (.exit 0) ⟨ins (ins (ins (ins (H34 xs xs.length).t 11 (.c (.v (.int .i64 xs.length)))) 12 (.c (.sl 0 [] 0 xs.length))) 13 (.c (.v (.int .i64 xs.length)))) 14 (.c (.v (.bool false))), (H34 xs xs.length).o⟩ (by simp) (by simp -implicitDefEqProofs [H34, hint1]) (by simp -implicitDefEqProofs [big] at hj; omega)]
 ·simp -implicitDefEqProofs [H34]
 ·intro i hi
  simp -implicitDefEqProofs [H34, hint1, hi, w64 (x := (i : Int) + 1) (by omega)]
 ·simp -implicitDefEqProofs [H34]
def H38 (k : Int) (n : Nat) (i : Nat) : St := ⟨[(0, .c (.sl 0 [] 0 n)), (1, .c (.v (.int .i64 (k + i)))), (5, .c (.v (.int .i64 i)))], [(0, ⟨.ro, 3, ints (upto k n)⟩)]⟩
theorem run38 {j : Nat} (hj : big ≤ j) (n : Nat) (k : Int) (hk : 0 ≤ k ∧ k + n ≤ 4611686018427387904) :
  M.run (j + 1) 118 [.c (.r 3 n (ints (upto k n))), .c (.v (.int .i64 k))] = some ([.c (.v (.int .i64 (k + n)))], [.c (.r 3 n (ints (upto k n))), .c (.v (.int .i64 k))]) := by
 rw [m_run (fn := Tryz.f118) (i0 := 0) rfl Tryz.func118 rfl rfl (by simp)]
 simp -implicitDefEqProofs
 rw [loop_up (H38 k n) n (.exit 0) ⟨ins (ins (ins (ins (H38 k n n).t 6 (.c (.v (.int .i64 n)))) 7 (.c (.sl 0 [] 0 n))) 8 (.c (.v (.int .i64 n)))) 9 (.c (.v (.bool false))), (H38 k n n).o⟩ (by simp) (by simp -implicitDefEqProofs [H38, hint1]) (by simp -implicitDefEqProofs [big] at hj; omega)]
 ·simp -implicitDefEqProofs [H38]
 ·intro i hi
  simp -implicitDefEqProofs [H38, hint1, hi, w64 (x := (i : Int) + 1) (by omega), w64 (x := k + i + 1) (by omega)]
  omega
 ·simp -implicitDefEqProofs [H38]
theorem run17 {j : Nat} (hj : big ≤ j) (a c : Int) (xs ys : List Int) (hx : xs.length ≤ 4611686018427387904) (hy : ys.length ≤ 4611686018427387904) :
  M.run (j + 2) 111 [.agg (stR a xs ys c), .agg (stR a xs ys c)] = some ([.c (.v (.bool true))], [.agg (stR a xs ys c), .agg (stR a xs ys c)]) := by
 rw [m_run (fn := Tryz.f111) (i0 := 0) rfl Tryz.func111 rfl rfl (by simp)]
 simp -implicitDefEqProofs [stR, own1, run34 hj xs hx, run34 hj ys hy]
end Go.Proofs.YtninncdacekfgaaGreat.VM
namespace Go.Proofs.YtninncdacekfgaaGreat.VM
open Go Go.Proofs
theorem run28 {j : Nat} (x : Ins) : M.run (j + 1) 149 [.agg (tIns x)] = some ([.agg (tIns x)], [.agg (tIns x)]) := by
 rw [m_run (fn := Tryz.f149) (i0 := 0) rfl Tryz.func149 rfl rfl (by simp -implicitDefEqProofs [tIns])]
 simp -implicitDefEqProofs [tIns]
end Go.Proofs.YtninncdacekfgaaGreat.VM

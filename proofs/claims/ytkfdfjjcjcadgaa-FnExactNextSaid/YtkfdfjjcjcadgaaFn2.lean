/- Numbers and instructions reckoned. -/
import Derived.Test.YtkfdfjjcjcadgaaFn1
namespace Go.Proofs.Ytkfdfjjcjcadgaa.VM
open Go Go.Proofs
set_option linter.unusedSimpArgs false
set_option linter.unusedVariables false
set_option maxRecDepth 100000
def inB (n lo hi : Int) : Bool := decide (lo ≤ n ∧ n ≤ hi)
theorem run61 {j : Nat} (n lo hi : Int) : M.run (j + 1) 61 [.c (.v (.int .i64 n)), .c (.v (.int .i64 lo)), .c (.v (.int .i64 hi))] = some ([.c (.v (.bool (inB n lo hi)))], [.c (.v (.int .i64 n)), .c (.v (.int .i64 lo)), .c (.v (.int .i64 hi))]) := by
  rw [m_run (fn := Try.f61) (i0 := 0) rfl Try.func61 rfl rfl (by simp)]
  by_cases h : lo ≤ n <;> simp -implicitDefEqProofs [h, inB]
theorem run64 {j : Nat} (n lo hi : Int) : M.run (j + 1) 64 [.c (.v (.int .i64 n)), .c (.v (.int .i64 lo)), .c (.v (.int .i64 hi))] = some ([.c (.v (.bool (inB n lo hi)))], [.c (.v (.int .i64 n)), .c (.v (.int .i64 lo)), .c (.v (.int .i64 hi))]) := by
  rw [m_run (fn := Try.f64) (i0 := 0) rfl Try.func64 rfl rfl (by simp)]
  by_cases h : lo ≤ n <;> simp -implicitDefEqProofs [h, inB]
def numB (n : Int) : Bool := inB n (-1000000000) 1000000000
theorem run62 {j : Nat} (n : Int) : M.run (j + 2) 62 [.c (.v (.int .i64 n))] = some ([.c (.v (.bool (numB n)))], [.c (.v (.int .i64 n))]) := by
  rw [m_run (fn := Try.f62) (i0 := 0) rfl Try.func62 rfl rfl (by simp)]
  simp -implicitDefEqProofs [run61, numB, own1]
theorem run67 {j : Nat} (n : Int) : M.run (j + 2) 67 [.c (.v (.int .i64 n))] = some ([.c (.v (.bool (numB n)))], [.c (.v (.int .i64 n))]) := by
  rw [m_run (fn := Try.f67) (i0 := 0) rfl Try.func67 rfl rfl (by simp)]
  simp -implicitDefEqProofs [run64, numB, own1]
def regB (n : Int) (h : Bool) : Bool := decide (n = 0) || (h && inB n 0 3)
theorem run65 {j : Nat} (n : Int) (b : Bool) : M.run (j + 2) 65 [.c (.v (.int .i64 n)), .c (.v (.bool b))] = some ([.c (.v (.bool (regB n b)))], [.c (.v (.int .i64 n)), .c (.v (.bool b))]) := by
  rw [m_run (fn := Try.f65) (i0 := 0) rfl Try.func65 rfl rfl (by simp)]
  by_cases h : n = 0
  · subst h; cases b <;> simp -implicitDefEqProofs [regB, own1]
  · cases b <;> simp -implicitDefEqProofs [h, regB, run64, own1]
structure Ins where
  op : Int
  r : Int
  a : Int
  b : Int
  n : Int
def tIns (x : Ins) : List T := [.v (.int .i64 x.op), .v (.int .i64 x.r), .v (.int .i64 x.a), .v (.int .i64 x.b), .v (.int .i64 x.n)]
theorem run28 {j : Nat} (x : Ins) : M.run (j + 1) 28 [.agg (tIns x)] = some ([.agg (tIns x)], [.agg (tIns x)]) := by
  rw [m_run (fn := Try.f28) (i0 := 0) rfl Try.func28 rfl rfl (by simp -implicitDefEqProofs [tIns])]
  simp -implicitDefEqProofs [tIns]
end Go.Proofs.Ytkfdfjjcjcadgaa.VM

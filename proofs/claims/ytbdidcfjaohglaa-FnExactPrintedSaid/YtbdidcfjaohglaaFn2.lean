/- Numbers and instructions reckoned. -/
import Derived.Test.YtbdidcfjaohglaaFn1
namespace Go.Proofs.Ytbdidcfjaohglaa.VM
open Go Go.Proofs
set_option linter.unusedSimpArgs false
set_option linter.unusedVariables false
set_option maxRecDepth 100000
def inB (n lo hi : Int) : Bool := decide (lo ≤ n ∧ n ≤ hi)
theorem run61 {j : Nat} (n lo hi : Int) : M.run (j + 1) 54 [.c (.v (.int .i64 n)), .c (.v (.int .i64 lo)), .c (.v (.int .i64 hi))] = some ([.c (.v (.bool (inB n lo hi)))], [.c (.v (.int .i64 n)), .c (.v (.int .i64 lo)), .c (.v (.int .i64 hi))]) := by
  rw [m_run (fn := Try.f54) (i0 := 0) rfl Try.func54 rfl rfl (by simp)]
  by_cases h : lo ≤ n <;> simp -implicitDefEqProofs [h, inB]
theorem run64 {j : Nat} (n lo hi : Int) : M.run (j + 1) 59 [.c (.v (.int .i64 n)), .c (.v (.int .i64 lo)), .c (.v (.int .i64 hi))] = some ([.c (.v (.bool (inB n lo hi)))], [.c (.v (.int .i64 n)), .c (.v (.int .i64 lo)), .c (.v (.int .i64 hi))]) := by
  rw [m_run (fn := Try.f59) (i0 := 0) rfl Try.func59 rfl rfl (by simp)]
  by_cases h : lo ≤ n <;> simp -implicitDefEqProofs [h, inB]
def numB (n : Int) : Bool := inB n (-1000000000) 1000000000
theorem run62 {j : Nat} (n : Int) : M.run (j + 2) 91 [.c (.v (.int .i64 n))] = some ([.c (.v (.bool (numB n)))], [.c (.v (.int .i64 n))]) := by
  rw [m_run (fn := Try.f91) (i0 := 0) rfl Try.func91 rfl rfl (by simp)]
  simp -implicitDefEqProofs [run61, numB, own1]
theorem run67 {j : Nat} (n : Int) : M.run (j + 2) 104 [.c (.v (.int .i64 n))] = some ([.c (.v (.bool (numB n)))], [.c (.v (.int .i64 n))]) := by
  rw [m_run (fn := Try.f104) (i0 := 0) rfl Try.func104 rfl rfl (by simp)]
  simp -implicitDefEqProofs [run64, numB, own1]
def regB (n : Int) (h : Bool) : Bool := decide (n = 0) || (h && inB n 0 3)
theorem run65 {j : Nat} (n : Int) (b : Bool) : M.run (j + 2) 123 [.c (.v (.int .i64 n)), .c (.v (.bool b))] = some ([.c (.v (.bool (regB n b)))], [.c (.v (.int .i64 n)), .c (.v (.bool b))]) := by
  rw [m_run (fn := Try.f123) (i0 := 0) rfl Try.func123 rfl rfl (by simp)]
  by_cases h : n = 0
  · subst h; cases b <;> simp -implicitDefEqProofs [regB, own1]
  · cases b <;> simp -implicitDefEqProofs [h, regB, run64, own1]
structure Ins where
  op : Int
  r : Int
  a : Int
  b : Int
  n : Int
def tIns (x : Ins) : List T := [.v (.int .i64 x.op), .v (.int .i64 x.r), .v (.int .i64 x.a), .v (.int .i64 x.b), .v (.int .i64 x.n)]
theorem run28 {j : Nat} (x : Ins) : M.run (j + 1) 76 [.agg (tIns x)] = some ([.agg (tIns x)], [.agg (tIns x)]) := by
  rw [m_run (fn := Try.f76) (i0 := 0) rfl Try.func76 rfl rfl (by simp -implicitDefEqProofs [tIns])]
  simp -implicitDefEqProofs [tIns]
end Go.Proofs.Ytbdidcfjaohglaa.VM

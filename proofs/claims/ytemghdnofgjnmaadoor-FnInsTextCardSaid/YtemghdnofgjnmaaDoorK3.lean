/- InsOk: reckoned. -/
import Derived.Test.YtemghdnofgjnmaaDoorK0
/- InsOk of the program reckoned. -/
namespace Go.Proofs.YtemghdnofgjnmaaDoor.VM
open Go Go.Proofs
set_option linter.unusedSimpArgs false
set_option linter.unusedVariables false
set_option maxRecDepth 100000
set_option maxHeartbeats 20000000
theorem run63 {j : Nat} (op : Int) : M.run (j + 1) 20 [.c (.v (.int .i64 op))] = some ([.c (.v (.string (formS op))), .c (.v (.bool (formB op)))], [.c (.v (.int .i64 op))]) := by
 rw [m_run (fn := Tryd.f20) (i0 := 0) rfl Tryd.func20 rfl rfl (by simp)]
 by_cases h1 : op = 1
 ·subst h1; simp -implicitDefEqProofs [formS, formL, formB]
 by_cases h2 : op = 2
 ·subst h2; simp -implicitDefEqProofs [formS, formL, formB]
 by_cases h3 : op = 3
 ·subst h3; simp -implicitDefEqProofs [formS, formL, formB]
 by_cases h4 : op = 4
 ·subst h4; simp -implicitDefEqProofs [formS, formL, formB]
 by_cases h5 : op = 5
 ·subst h5; simp -implicitDefEqProofs [formS, formL, formB]
 by_cases h6 : op = 6
 ·subst h6; simp -implicitDefEqProofs [formS, formL, formB]
 by_cases h7 : op = 7
 ·subst h7; simp -implicitDefEqProofs [formS, formL, formB]
 by_cases h8 : op = 8
 ·subst h8; simp -implicitDefEqProofs [formS, formL, formB]
 by_cases h9 : op = 9
 ·subst h9; simp -implicitDefEqProofs [formS, formL, formB]
 by_cases h10 : op = 10
 ·subst h10; simp -implicitDefEqProofs [formS, formL, formB]
 rw [show formS op = ⟨#[]⟩ by simp [formS, formL, h1, h2, h3, h4, h5, h6, h7, h8, h9, h10], show formB op = (op == 11) by rw [Bool.eq_iff_iff]; simp [formB]; omega]
 simp -implicitDefEqProofs [h1, h2, h3, h4, h5, h6, h7, h8, h9, h10]
/-- What the last part may be. -/
def lastB (op n places procs : Int) : Bool := if hasB op 78 then numB n else if hasB op 80 then inB n 0 (procs - 1) else if hasB op 84 then (n == 9 || inB n 0 (procs - 1)) else if hasB op 76 then decide (0 ≤ n) && decide (n < places) else n == 0
def insB (x : Ins) (places procs : Int) : Bool := formB x.op && inB procs 1 4 && regB x.r (hasB x.op 82) && regB x.a (hasB x.op 65) && regB x.b (hasB x.op 66) && lastB x.op x.n places procs
theorem inB_le {n lo hi : Int} (h : inB n lo hi = true) : lo ≤ n ∧ n ≤ hi := by simpa [inB] using h
theorem run29 {j : Nat} (x : Ins) (places procs : Int) : M.run (j + 3) 12 [.agg (tIns x), .c (.v (.int .i64 places)), .c (.v (.int .i64 procs))] = some ([.c (.v (.bool (insB x places procs)))], [.agg (tIns x), .c (.v (.int .i64 places)), .c (.v (.int .i64 procs))]) := by
 rw [m_run (fn := Tryd.f12) (i0 := 0) rfl Tryd.func12 rfl rfl (by simp [tIns])]
 obtain ⟨op, r, a, b, n⟩ := x
 unfold insB
 simp only
 cases h1 : formB op
 ·simp -implicitDefEqProofs [tIns, own1, run63, run64, run65, run66, h1]
 cases h2 : inB procs 1 4
 ·simp -implicitDefEqProofs [tIns, own1, run63, run64, run65, run66, h1, h2]
 cases h3 : regB r (hasB op 82)
 ·simp -implicitDefEqProofs [tIns, own1, run63, run64, run65, run66, h1, h2, h3]
 cases h4 : regB a (hasB op 65)
 ·simp -implicitDefEqProofs [tIns, own1, run63, run64, run65, run66, h1, h2, h3, h4]
 cases h5 : regB b (hasB op 66)
 ·simp -implicitDefEqProofs [tIns, own1, run63, run64, run65, run66, h1, h2, h3, h4, h5]
 have hp := inB_le h2
 unfold lastB
 cases h6 : hasB op 78
 ·cases h7 : hasB op 80
  ·cases h8 : hasB op 84
   ·cases h9 : hasB op 76
    ·simp -implicitDefEqProofs [tIns, own1, run63, run64, run65, run66, run67, h1, h2, h3, h4, h5, h6, h7, h8, h9]
    ·by_cases h10 : 0 ≤ n
     ·simp -implicitDefEqProofs [tIns, own1, run63, run64, run65, run66, run67, h1, h2, h3, h4, h5, h6, h7, h8, h9, h10]
     ·simp -implicitDefEqProofs [tIns, own1, run63, run64, run65, run66, run67, h1, h2, h3, h4, h5, h6, h7, h8, h9, h10]
   ·by_cases h10 : n = 9
    ·simp -implicitDefEqProofs [tIns, own1, run63, run64, run65, run66, run67, h1, h2, h3, h4, h5, h6, h7, h8, h10]
    ·simp -implicitDefEqProofs [tIns, own1, run63, run64, run65, run66, run67, h1, h2, h3, h4, h5, h6, h7, h8, h10, w64 (x := procs - 1) (by omega)]
  ·simp -implicitDefEqProofs [tIns, own1, run63, run64, run65, run66, run67, h1, h2, h3, h4, h5, h6, h7, w64 (x := procs - 1) (by omega)]
 ·simp -implicitDefEqProofs [tIns, own1, run63, run64, run65, run66, run67, h1, h2, h3, h4, h5, h6]
end Go.Proofs.YtemghdnofgjnmaaDoor.VM

/- InsOk of the specification reckoned. -/
namespace Go.Proofs.YtemghdnofgjnmaaDoor.VM
open Go Go.Proofs
set_option linter.unusedSimpArgs false
set_option linter.unusedVariables false
set_option maxRecDepth 100000
set_option maxHeartbeats 40000000
def fieldsOf (P : Program) (t : TypeId) : List Field := match P.underlying t with | some (.struct fs) => fs.toList | _ => []
theorem flat41 : flatS Tryd.prog 23 = some (fieldsOf Tryd.prog 23) := by kernel_rfl
theorem eqI (x y : Int) : eqF Tryd.prog 3 (.int .i64 x) (.int .i64 y) = some (x == y) := by unfold eqF; rw [Tryd.underlying3]; rfl
theorem eq41 (a b c d e a' b' c' d' e' : Int) : eqCs Tryd.prog (fieldsOf Tryd.prog 23) [.v (.int .i64 a), .v (.int .i64 b), .v (.int .i64 c), .v (.int .i64 d), .v (.int .i64 e)] [.v (.int .i64 a'), .v (.int .i64 b'), .v (.int .i64 c'), .v (.int .i64 d'), .v (.int .i64 e')] = some (a == a' && (b == b' && (c == c' && (d == d' && (e == e' && true))))) := by
 unfold fieldsOf; rw [Tryd.underlying23]; simp [eqCs, eqI]
/-- The specification's. -/
def specB (x : Ins) (places procs : Int) : Bool :=
 inB x.r 0 3 && (inB x.a 0 3 && (inB x.b 0 3 && (inB procs 1 4 &&
  (if x.op = 1 then numB x.n && (x.a == 0 && x.b == 0)
   else if x.op = 2 ∨ x.op = 3 ∨ x.op = 4 ∨ x.op = 5 then x.n == 0
   else if x.op = 6 then inB x.n 0 (procs - 1) && (x.r == 0 && x.b == 0)
   else if x.op = 7 then (inB x.n 0 (procs - 1) || x.n == 9) && (x.a == 0 && x.b == 0)
   else if x.op = 8 then x.r == 0 && (x.b == 0 && x.n == 0)
   else if x.op = 9 then (decide (0 ≤ x.n) && decide (x.n < places)) && (x.r == 0 && (x.a == 0 && x.b == 0))
   else if x.op = 10 then (decide (0 ≤ x.n) && decide (x.n < places)) && (x.r == 0 && x.b == 0)
   else if x.op = 11 then x.r == 0 && (x.a == 0 && (x.b == 0 && x.n == 0))
   else false))))
theorem run27 {j : Nat} (x : Ins) (places procs : Int) : M.run (j + 3) 27 [.agg (tIns x), .c (.v (.int .i64 places)), .c (.v (.int .i64 procs))] = some ([.c (.v (.bool (specB x places procs)))], [.agg (tIns x), .c (.v (.int .i64 places)), .c (.v (.int .i64 procs))]) := by
 rw [m_run (fn := Tryd.f27) (i0 := 0) rfl Tryd.func27 rfl rfl (by simp [tIns])]
 obtain ⟨op, r, a, b, n⟩ := x
 unfold specB
 simp only
 cases h1 : inB r 0 3
 ·simp -implicitDefEqProofs [tIns, own1, run61, run62, h1]
 cases h2 : inB a 0 3
 ·simp -implicitDefEqProofs [tIns, own1, run61, run62, h1, h2]
 cases h3 : inB b 0 3
 ·simp -implicitDefEqProofs [tIns, own1, run61, run62, h1, h2, h3]
 cases h4 : inB procs 1 4
 ·simp -implicitDefEqProofs [tIns, own1, run61, run62, h1, h2, h3, h4]
 have hp := inB_le h4
 have hw := w64 (x := procs - 1) (by omega)
 by_cases g1 : 0 ≤ n
 ·simp -implicitDefEqProofs [tIns, own1, run61, run62, h1, h2, h3, h4, hw, g1]
  by_cases o1 : op = 1
  ·subst o1
   cases q1 : numB n
   ·simp -implicitDefEqProofs [tIns, own1, run61, run62, h1, h2, h3, h4, hw, g1, q1]
   by_cases q2 : a = 0
   ·simp -implicitDefEqProofs [tIns, own1, run61, run62, h1, h2, h3, h4, hw, g1, q1, q2]
   ·simp -implicitDefEqProofs [tIns, own1, run61, run62, h1, h2, h3, h4, hw, g1, q1, q2]
  by_cases o2 : op = 2
  ·subst o2; simp -implicitDefEqProofs [tIns, own1, run61, run62, h1, h2, h3, h4, hw, g1]
  by_cases o3 : op = 3
  ·subst o3; simp -implicitDefEqProofs [tIns, own1, run61, run62, h1, h2, h3, h4, hw, g1]
  by_cases o4 : op = 4
  ·subst o4; simp -implicitDefEqProofs [tIns, own1, run61, run62, h1, h2, h3, h4, hw, g1]
  by_cases o5 : op = 5
  ·subst o5; simp -implicitDefEqProofs [tIns, own1, run61, run62, h1, h2, h3, h4, hw, g1]
  by_cases o6 : op = 6
  ·subst o6
   cases q1 : inB n 0 (procs - 1)
   ·simp -implicitDefEqProofs [tIns, own1, run61, run62, h1, h2, h3, h4, hw, g1, q1]
   by_cases q2 : r = 0
   ·simp -implicitDefEqProofs [tIns, own1, run61, run62, h1, h2, h3, h4, hw, g1, q1, q2]
   ·simp -implicitDefEqProofs [tIns, own1, run61, run62, h1, h2, h3, h4, hw, g1, q1, q2]
  by_cases o7 : op = 7
  ·subst o7
   cases q1 : inB n 0 (procs - 1)
   ·by_cases q3 : n = 9
    ·by_cases q2 : a = 0
     ·simp -implicitDefEqProofs [tIns, own1, run61, run62, h1, h2, h3, h4, hw, g1, q1, q2, q3]
     ·simp -implicitDefEqProofs [tIns, own1, run61, run62, h1, h2, h3, h4, hw, g1, q1, q2, q3]
    ·simp -implicitDefEqProofs [tIns, own1, run61, run62, h1, h2, h3, h4, hw, g1, q1, q3]
   by_cases q2 : a = 0
   ·simp -implicitDefEqProofs [tIns, own1, run61, run62, h1, h2, h3, h4, hw, g1, q1, q2]
   ·simp -implicitDefEqProofs [tIns, own1, run61, run62, h1, h2, h3, h4, hw, g1, q1, q2]
  by_cases o8 : op = 8
  ·subst o8
   by_cases q1 : r = 0
   ·by_cases q2 : b = 0
    ·simp -implicitDefEqProofs [tIns, own1, run61, run62, h1, h2, h3, h4, hw, g1, q1, q2]
    ·simp -implicitDefEqProofs [tIns, own1, run61, run62, h1, h2, h3, h4, hw, g1, q1, q2]
   ·simp -implicitDefEqProofs [tIns, own1, run61, run62, h1, h2, h3, h4, hw, g1, q1]
  by_cases o9 : op = 9
  ·subst o9
   by_cases q0 : n < places
   ·by_cases q1 : r = 0
    ·by_cases q2 : a = 0
     ·simp -implicitDefEqProofs [tIns, own1, run61, run62, h1, h2, h3, h4, hw, g1, q0, q1, q2]
     ·simp -implicitDefEqProofs [tIns, own1, run61, run62, h1, h2, h3, h4, hw, g1, q0, q1, q2]
    ·simp -implicitDefEqProofs [tIns, own1, run61, run62, h1, h2, h3, h4, hw, g1, q0, q1]
   ·simp -implicitDefEqProofs [tIns, own1, run61, run62, h1, h2, h3, h4, hw, g1, q0]
  by_cases o10 : op = 10
  ·subst o10
   by_cases q0 : n < places
   ·by_cases q1 : r = 0
    ·simp -implicitDefEqProofs [tIns, own1, run61, run62, h1, h2, h3, h4, hw, g1, q0, q1]
    ·simp -implicitDefEqProofs [tIns, own1, run61, run62, h1, h2, h3, h4, hw, g1, q0, q1]
   ·simp -implicitDefEqProofs [tIns, own1, run61, run62, h1, h2, h3, h4, hw, g1, q0]
  by_cases o11 : op = 11
  ·subst o11; simp -implicitDefEqProofs [flat41, eq41, tIns, own1, run61, run62, h1, h2, h3, h4, hw, g1]
  simp -implicitDefEqProofs [tIns, own1, run61, run62, h1, h2, h3, h4, hw, g1, o1, o2, o3, o4, o5, o6, o7, o8, o9, o10, o11]
 ·simp -implicitDefEqProofs [tIns, own1, run61, run62, h1, h2, h3, h4, hw, g1]
  by_cases o1 : op = 1
  ·subst o1
   cases q1 : numB n
   ·simp -implicitDefEqProofs [tIns, own1, run61, run62, h1, h2, h3, h4, hw, g1, q1]
   by_cases q2 : a = 0
   ·simp -implicitDefEqProofs [tIns, own1, run61, run62, h1, h2, h3, h4, hw, g1, q1, q2]
   ·simp -implicitDefEqProofs [tIns, own1, run61, run62, h1, h2, h3, h4, hw, g1, q1, q2]
  by_cases o2 : op = 2
  ·subst o2; simp -implicitDefEqProofs [tIns, own1, run61, run62, h1, h2, h3, h4, hw, g1]
  by_cases o3 : op = 3
  ·subst o3; simp -implicitDefEqProofs [tIns, own1, run61, run62, h1, h2, h3, h4, hw, g1]
  by_cases o4 : op = 4
  ·subst o4; simp -implicitDefEqProofs [tIns, own1, run61, run62, h1, h2, h3, h4, hw, g1]
  by_cases o5 : op = 5
  ·subst o5; simp -implicitDefEqProofs [tIns, own1, run61, run62, h1, h2, h3, h4, hw, g1]
  by_cases o6 : op = 6
  ·subst o6
   cases q1 : inB n 0 (procs - 1)
   ·simp -implicitDefEqProofs [tIns, own1, run61, run62, h1, h2, h3, h4, hw, g1, q1]
   by_cases q2 : r = 0
   ·simp -implicitDefEqProofs [tIns, own1, run61, run62, h1, h2, h3, h4, hw, g1, q1, q2]
   ·simp -implicitDefEqProofs [tIns, own1, run61, run62, h1, h2, h3, h4, hw, g1, q1, q2]
  by_cases o7 : op = 7
  ·subst o7
   cases q1 : inB n 0 (procs - 1)
   ·by_cases q3 : n = 9
    ·by_cases q2 : a = 0
     ·simp -implicitDefEqProofs [tIns, own1, run61, run62, h1, h2, h3, h4, hw, g1, q1, q2, q3]
     ·simp -implicitDefEqProofs [tIns, own1, run61, run62, h1, h2, h3, h4, hw, g1, q1, q2, q3]
    ·simp -implicitDefEqProofs [tIns, own1, run61, run62, h1, h2, h3, h4, hw, g1, q1, q3]
   by_cases q2 : a = 0
   ·simp -implicitDefEqProofs [tIns, own1, run61, run62, h1, h2, h3, h4, hw, g1, q1, q2]
   ·simp -implicitDefEqProofs [tIns, own1, run61, run62, h1, h2, h3, h4, hw, g1, q1, q2]
  by_cases o8 : op = 8
  ·subst o8
   by_cases q1 : r = 0
   ·by_cases q2 : b = 0
    ·simp -implicitDefEqProofs [tIns, own1, run61, run62, h1, h2, h3, h4, hw, g1, q1, q2]
    ·simp -implicitDefEqProofs [tIns, own1, run61, run62, h1, h2, h3, h4, hw, g1, q1, q2]
   ·simp -implicitDefEqProofs [tIns, own1, run61, run62, h1, h2, h3, h4, hw, g1, q1]
  by_cases o9 : op = 9
  ·subst o9
   by_cases q0 : n < places
   ·by_cases q1 : r = 0
    ·by_cases q2 : a = 0
     ·simp -implicitDefEqProofs [tIns, own1, run61, run62, h1, h2, h3, h4, hw, g1, q0, q1, q2]
     ·simp -implicitDefEqProofs [tIns, own1, run61, run62, h1, h2, h3, h4, hw, g1, q0, q1, q2]
    ·simp -implicitDefEqProofs [tIns, own1, run61, run62, h1, h2, h3, h4, hw, g1, q0, q1]
   ·simp -implicitDefEqProofs [tIns, own1, run61, run62, h1, h2, h3, h4, hw, g1, q0]
  by_cases o10 : op = 10
  ·subst o10
   by_cases q0 : n < places
   ·by_cases q1 : r = 0
    ·simp -implicitDefEqProofs [tIns, own1, run61, run62, h1, h2, h3, h4, hw, g1, q0, q1]
    ·simp -implicitDefEqProofs [tIns, own1, run61, run62, h1, h2, h3, h4, hw, g1, q0, q1]
   ·simp -implicitDefEqProofs [tIns, own1, run61, run62, h1, h2, h3, h4, hw, g1, q0]
  by_cases o11 : op = 11
  ·subst o11; simp -implicitDefEqProofs [flat41, eq41, tIns, own1, run61, run62, h1, h2, h3, h4, hw, g1]
  simp -implicitDefEqProofs [tIns, own1, run61, run62, h1, h2, h3, h4, hw, g1, o1, o2, o3, o4, o5, o6, o7, o8, o9, o10, o11]
theorem spec_ins (x : Ins) (places procs : Int) : specB x places procs = insB x places procs := by
 obtain ⟨op, r, a, b, n⟩ := x
 by_cases h : 1 ≤ op ∧ op ≤ 11
 ·have : op = 1 ∨ op = 2 ∨ op = 3 ∨ op = 4 ∨ op = 5 ∨ op = 6 ∨ op = 7 ∨ op = 8 ∨ op = 9 ∨ op = 10 ∨ op = 11 := by omega
  rcases this with rfl | rfl | rfl | rfl | rfl | rfl | rfl | rfl | rfl | rfl | rfl <;> (rw [Bool.eq_iff_iff]; simp [specB, insB, hasB, formL, formB, regB, lastB, numB, inB]; omega)
 ·have e : formB op = false := by simp [formB]; omega
  simp [specB, insB, e, show ¬ op = 1 by omega, show ¬ op = 2 by omega, show ¬ op = 3 by omega, show ¬ op = 4 by omega, show ¬ op = 5 by omega, show ¬ op = 6 by omega, show ¬ op = 7 by omega, show ¬ op = 8 by omega, show ¬ op = 9 by omega, show ¬ op = 10 by omega, show ¬ op = 11 by omega]
end Go.Proofs.YtemghdnofgjnmaaDoor.VM

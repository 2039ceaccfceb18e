/- InsOk of the program reckoned. -/
import Derived.Test.YtbdidcfjaohglaaFn2
namespace Go.Proofs.Ytbdidcfjaohglaa.VM
open Go Go.Proofs
set_option linter.unusedSimpArgs false
set_option linter.unusedVariables false
set_option maxRecDepth 100000
set_option maxHeartbeats 20000000
theorem run63 {j : Nat} (op : Int) : M.run (j + 1) 122 [.c (.v (.int .i64 op))] = some ([.c (.v (.string (formS op))), .c (.v (.bool (formB op)))], [.c (.v (.int .i64 op))]) := by
  rw [m_run (fn := Try.f122) (i0 := 0) rfl Try.func122 rfl rfl (by simp)]
  by_cases h1 : op = 1
  · subst h1; simp -implicitDefEqProofs [formS, formL, formB]
  by_cases h2 : op = 2
  · subst h2; simp -implicitDefEqProofs [formS, formL, formB]
  by_cases h3 : op = 3
  · subst h3; simp -implicitDefEqProofs [formS, formL, formB]
  by_cases h4 : op = 4
  · subst h4; simp -implicitDefEqProofs [formS, formL, formB]
  by_cases h5 : op = 5
  · subst h5; simp -implicitDefEqProofs [formS, formL, formB]
  by_cases h6 : op = 6
  · subst h6; simp -implicitDefEqProofs [formS, formL, formB]
  by_cases h7 : op = 7
  · subst h7; simp -implicitDefEqProofs [formS, formL, formB]
  by_cases h8 : op = 8
  · subst h8; simp -implicitDefEqProofs [formS, formL, formB]
  by_cases h9 : op = 9
  · subst h9; simp -implicitDefEqProofs [formS, formL, formB]
  by_cases h10 : op = 10
  · subst h10; simp -implicitDefEqProofs [formS, formL, formB]
  rw [show formS op = ⟨#[]⟩ by simp [formS, formL, h1, h2, h3, h4, h5, h6, h7, h8, h9, h10], show formB op = (op == 11) by rw [Bool.eq_iff_iff]; simp [formB]; omega]
  simp -implicitDefEqProofs [h1, h2, h3, h4, h5, h6, h7, h8, h9, h10]
/-- What the last part may be. -/
def lastB (op n places procs : Int) : Bool := if hasB op 78 then numB n else if hasB op 80 then inB n 0 (procs - 1) else if hasB op 84 then (n == 9 || inB n 0 (procs - 1)) else if hasB op 76 then decide (0 ≤ n) && decide (n < places) else n == 0
def insB (x : Ins) (places procs : Int) : Bool := formB x.op && inB procs 1 4 && regB x.r (hasB x.op 82) && regB x.a (hasB x.op 65) && regB x.b (hasB x.op 66) && lastB x.op x.n places procs
theorem inB_le {n lo hi : Int} (h : inB n lo hi = true) : lo ≤ n ∧ n ≤ hi := by simpa [inB] using h
theorem run29 {j : Nat} (x : Ins) (places procs : Int) : M.run (j + 3) 112 [.agg (tIns x), .c (.v (.int .i64 places)), .c (.v (.int .i64 procs))] = some ([.c (.v (.bool (insB x places procs)))], [.agg (tIns x), .c (.v (.int .i64 places)), .c (.v (.int .i64 procs))]) := by
  rw [m_run (fn := Try.f112) (i0 := 0) rfl Try.func112 rfl rfl (by simp [tIns])]
  obtain ⟨op, r, a, b, n⟩ := x
  unfold insB
  simp only
  cases h1 : formB op
  · simp -implicitDefEqProofs [tIns, own1, run63, run64, run65, run66, h1]
  cases h2 : inB procs 1 4
  · simp -implicitDefEqProofs [tIns, own1, run63, run64, run65, run66, h1, h2]
  cases h3 : regB r (hasB op 82)
  · simp -implicitDefEqProofs [tIns, own1, run63, run64, run65, run66, h1, h2, h3]
  cases h4 : regB a (hasB op 65)
  · simp -implicitDefEqProofs [tIns, own1, run63, run64, run65, run66, h1, h2, h3, h4]
  cases h5 : regB b (hasB op 66)
  · simp -implicitDefEqProofs [tIns, own1, run63, run64, run65, run66, h1, h2, h3, h4, h5]
  have hp := inB_le h2
  unfold lastB
  cases h6 : hasB op 78
  · cases h7 : hasB op 80
    · cases h8 : hasB op 84
      · cases h9 : hasB op 76
        · simp -implicitDefEqProofs [tIns, own1, run63, run64, run65, run66, run67, h1, h2, h3, h4, h5, h6, h7, h8, h9]
        · by_cases h10 : 0 ≤ n
          · simp -implicitDefEqProofs [tIns, own1, run63, run64, run65, run66, run67, h1, h2, h3, h4, h5, h6, h7, h8, h9, h10]
          · simp -implicitDefEqProofs [tIns, own1, run63, run64, run65, run66, run67, h1, h2, h3, h4, h5, h6, h7, h8, h9, h10]
      · by_cases h10 : n = 9
        · simp -implicitDefEqProofs [tIns, own1, run63, run64, run65, run66, run67, h1, h2, h3, h4, h5, h6, h7, h8, h10]
        · simp -implicitDefEqProofs [tIns, own1, run63, run64, run65, run66, run67, h1, h2, h3, h4, h5, h6, h7, h8, h10, w64 (x := procs - 1) (by omega)]
    · simp -implicitDefEqProofs [tIns, own1, run63, run64, run65, run66, run67, h1, h2, h3, h4, h5, h6, h7, w64 (x := procs - 1) (by omega)]
  · simp -implicitDefEqProofs [tIns, own1, run63, run64, run65, run66, run67, h1, h2, h3, h4, h5, h6]
end Go.Proofs.Ytbdidcfjaohglaa.VM
